/- StackRolls. -/
import Derived.Test.YteoghagknececaaL
import Derived.Deep.RegionLaw
namespace Go.Proofs.Yteoghagknececaa
open Go.RowKit Go.Proofs.YteoghagknececaaW.PrintWords Go.Proofs.YteoghagknececaaW.PrintMore
set_option linter.unusedVariables false

/-- what lies from pl on, turned k times. -/
def spun (l : List Int) (pl k : Nat) : List Int := l.take pl ++ ((l.drop pl).drop k ++ (l.drop pl).take k)
theorem spun_zero (l : List Int) (pl : Nat) : spun l pl 0 = l := by simp [spun]
theorem spun_end (l : List Int) (pl k : Nat) (h : l.length ≤ pl + k) : spun l pl k = l := by
  unfold spun
  have hd : (l.drop pl).length ≤ k := by rw [List.length_drop]; omega
  rw [List.drop_eq_nil_of_le hd, List.take_of_length_le hd]; simp
theorem spun_length (l : List Int) (pl k : Nat) : (spun l pl k).length = l.length := by
  unfold spun; simp; omega
theorem rolled_mid (pre u : List Int) (x : Int) (i : Nat) (h : (pre ++ x :: u).length - 1 - i = pre.length) : rolled (pre ++ x :: u) i = pre ++ (u ++ [x]) := by
  unfold rolled
  rw [h, List.eraseIdx_append_of_length_le (Nat.le_refl _), List.getElem?_append_right (Nat.le_refl _)]
  simp
theorem spun_step (l : List Int) (pl k i : Nat) (hi : l.length = pl + 1 + i) (hk : k ≤ i) : rolled (spun l pl k) i = spun l pl (k + 1) := by
  have hd : (l.drop pl).length = i + 1 := by rw [List.length_drop]; omega
  have hlt : k < (l.drop pl).length := by omega
  have e : spun l pl k = l.take pl ++ ((l.drop pl)[k] :: ((l.drop pl).drop (k + 1) ++ (l.drop pl).take k)) := by
    unfold spun
    rw [List.drop_eq_getElem_cons hlt]; rfl
  rw [e, rolled_mid]
  · unfold spun
    rw [List.take_add_one, List.getElem?_eq_getElem hlt]
    simp
  · rw [← e, spun_length, List.length_take]; omega
theorem spun_one (l : List Int) (pl : Nat) (x : Int) (h : l[pl]? = some x) : spun l pl 1 = l.eraseIdx pl ++ [x] := by
  have hlt : pl < l.length := (List.getElem?_eq_some_iff.1 h).1
  unfold spun
  rw [List.drop_drop, List.take_add_one, List.eraseIdx_eq_take_drop_succ]
  simp [h]

/-- append as one step of a region that draws its order. -/
theorem step_app {ops : Array Oper} {o : Oper} {a : Act} {w : World} {K : Act → World → Prop} {Q : Exit → Act → World → Prop} {E : Prop} (hg : o.guard = none) (s x : Operand)
    (ho : o.op = .call { callee := .builtin .append, args := #[s, x], argTypes := #[28, 28] })
    (base : Nat) (v : Value) (n : Nat) (xs : List Value) (hs : a.eval s = v) (hown : w.ownsRow base 40 1 v n xs)
    (X : Option Addr) (m c : Nat) (ys : List Int) (hx : a.eval x = .slice X m c) (hm : ys.length = m) (hsrc : Src w X c ys) (hb : n + m ≤ 100000) (hbase : base ≤ w.heap.size)
    (h : ∀ A' c' w', w'.ownsRow base 40 1 (.slice A' (n + m) c') (n + m) (xs ++ ys.map (Value.int .u32)) → w.grownBy w' v.ownBlock → K (a.put o.dst (.slice A' (n + m) c')) w') :
    if Region.wanted o (yielded ops a.tmps) = true then Oper.wp Try.prog o a w K Q else E := by
  have hw : Region.wanted o (yielded ops a.tmps) = true := by simp [Region.wanted, hg]
  rw [if_pos hw]
  obtain ⟨v', w', hr, h2, h3, h5⟩ := run_app w o.type base v n xs hown X m c ys hm hsrc hb hbase
  obtain ⟨A', c', rfl⟩ := own_shape h2
  unfold Oper.wp execOp
  simp only [ho, resolve, invoke, builtin, Sem.run_bind, Sem.run_pure, Result.andThen_ok, List.map_toArray, List.map_cons, List.map_nil, hs, hx, hr]
  exact h A' c' w' h2 h3
theorem Src.drop {W : World} {ad : Addr} {c : Nat} {ys : List Int} (h : Src W (some ad) c ys) (k c' : Nat) : Src W (some (ad.add k)) c' (ys.drop k) := by
  refine ⟨fun hx => (by cases hx), fun ad' ha j u hu => ?_⟩
  injection ha with ha
  subst ha
  rw [List.map_drop, List.getElem?_drop] at hu
  have := h.at' ad rfl (k + j) u hu
  have e : (ad.add k).add j = ad.add (k + j) := by
    unfold Addr.add
    by_cases h1 : k = 0
    · subst h1; simp
    · by_cases h2 : j = 0
      · subst h2; simp
      · simp [h1, h2, Nat.add_assoc]
  rw [e]; exact this

set_option maxRecDepth 100000 in
set_option maxHeartbeats 2000000 in
theorem rolls_law (W : World) (a1 : Int) (h0 : 0 ≤ a1) (h255 : a1 ≤ 255) (X : Option Addr) (len cap : Nat) (l : List Int) (hl : l.length = len) (hb : len ≤ 2 ^ 47) (hcap : len ≤ cap) (hs : Src W X cap l) :
    Calls Try.prog 5 #[.slice X len cap, .int .u8 a1] W fun e W' => e = .returned (.bool true) ∧ Chg Not W W' := by
  have HS : Hid (Src W X cap l) := hs
  clear hs
  by_cases h60 : 1 ≤ len ∧ len ≤ 60
  · obtain ⟨hl1, hl2⟩ := h60
    obtain ⟨i, hI⟩ : ∃ k : Nat, (k : Int) = a1 % (len : Int) := ⟨(a1 % (len : Int)).toNat, Int.toNat_of_nonneg (Int.emod_nonneg _ (by omega))⟩
    have hi : i < len := by
      have : a1 % (len : Int) < len := Int.emod_lt_of_pos _ (by omega)
      omega
    have HI : Hid (a1 % (len : Int) = i) := hI.symm
    clear hI
    obtain ⟨pl, hpl'⟩ : ∃ pl, pl = len - 1 - i := ⟨_, rfl⟩
    have hpl : (len : Int) - 1 - i = (pl : Int) := by omega
    have hplt : pl < len := by omega
    obtain ⟨x, hx⟩ : ∃ x, l[pl]? = some x := ⟨l[pl]'(by omega), by simp⟩
    obtain ⟨ad, rfl, k0⟩ := HS.out.cell hx
    have HX : Hid (l[pl]? = some x) := hx
    clear hx k0 hpl'
    have b0 : decide (60 < (len : Int)) = false := decide_eq_false (by omega)
    have b1 : ((len : Int) == 0) = false := beq_eq_false_iff_ne.mpr (by omega)
    go_enter Try.func5, Try.ntmps5
    go_wp2_with fail
    refine (new_ok W 60 (-3) (-4) (by omega) (by omega) (by decide) (by decide) (Nat.le_refl _)).mono ?_
    rintro e w1 ⟨rfl, h1, C1⟩
    have H : Hid (Stk W.heap.size w1 W.heap.size none 0 ⟨[], 60, -3, -4⟩) := h1
    have C : Hid (Chg Not W w1) := C1
    clear h1 C1
    have hmay : Hid (St.may ⟨[], 60, -3, -4⟩ 0 (len : Nat) = 0) := by show _ = _; rw [may_zero, if_neg (by decide), if_neg (by show ¬ (len : Int) > 60 - (0 : Int); omega)]
    go_wp2_with fail
    refine (push_yes H.out C.out.size _ len cap l l hl (HS.out.not C.out) hmay.out (by show (0 + len : Int) ≤ 60; omega) rfl).mono ?_
    rintro e w2 ⟨rfl, h1, A2, c2, h2, -⟩
    have C2 : Hid (Chg Not W w2) := C.out.foot H.out h1
    have H2 : Hid (Stk W.heap.size w2 W.heap.size A2 c2 ⟨l, 60, -3, -4⟩) := h2
    clear h1 h2 H C
    go_wp2_with fail
    rw [HI.out]
    refine (peek_ok H2.out (i : Int) pl x (by omega) (by show (pl : Int) = (l.length : Int) - 1 - i; omega) HX.out).mono ?_
    rintro e w' ⟨rfl, rfl⟩
    go_wp2_with fail
    refine (roll_yes H2.out C2.out.size i (spun l pl 1) (by show i < l.length; omega) (by have := spun_step l pl 0 i (by omega) (by omega); rw [spun_zero] at this; exact this)).mono ?_
    rintro e w3 ⟨rfl, h1, A3, c3, h3, -⟩
    have C : Hid (Chg Not W w3) := C2.out.foot H2.out h1
    have H : Hid (Stk W.heap.size w3 W.heap.size A3 c3 ⟨spun l pl 1, 60, -3, -4⟩) := h3
    clear h1 h3 H2 C2
    go_wp2_with fail
    refine (peek_ok H.out 0 (len - 1) x (by omega) (by show ((len - 1 : Nat) : Int) = ((spun l pl 1).length : Int) - 1 - 0; rw [spun_length]; omega) (by
      show (spun l pl 1)[len - 1]? = some x
      have he : (l.eraseIdx pl).length = len - 1 := by rw [List.length_eraseIdx, if_pos (by omega)]; omega
      rw [spun_one l pl x HX.out, List.getElem?_append_right (by omega), he]; simp)).mono ?_
    rintro e w' ⟨rfl, rfl⟩
    go_wp2_with fail
    refine (all_is H.out len (by show (spun l pl 1).length = len; rw [spun_length]; exact hl)).mono ?_
    rintro e w4 ⟨A4, c4, rfl, h1, h2⟩
    have SA : Hid (Src w4 A4 c4 (spun l pl 1)) := Src.own h1
    have C4 : Hid (Chg Not W w4) := C.out.not h2
    have H4 : Hid (Stk W.heap.size w4 W.heap.size A4 c4 ⟨spun l pl 1, 60, -3, -4⟩ ∨ True) := .inr trivial
    have H5 : Hid (Stk W.heap.size w4 W.heap.size A3 c3 ⟨spun l pl 1, 60, -3, -4⟩) := H.out.not h2
    clear h1 h2 H C H4
    obtain ⟨ad', hh, k0⟩ := (HS.out.not C4.out).cell HX.out
    injection hh with hh
    subst hh
    have he : (l.eraseIdx pl).length = len - 1 := by rw [List.length_eraseIdx, if_pos (by omega)]; omega
    have htk : (l.take pl).length = pl := by rw [List.length_take]; omega
    have hdr : (l.drop (pl + 1)).length = len - (pl + 1) := by rw [List.length_drop]; omega
    have hadlt : ad.block < w4.heap.size := by
      have hb : (ad.add pl).block = ad.block := by unfold Addr.add; split <;> rfl
      rw [← hb]
      rcases Nat.lt_or_ge (ad.add pl).block w4.heap.size with h' | h'
      · exact h'
      · simp [World.cell?, Array.getElem?_eq_none h'] at k0
    have CD : Chg Not W (w4.drew.alloc (.cells #[] 40)) := C4.out.drew.alloc _
    have E0 : Hid ((w4.drew.alloc (.cells #[] 40)).ownsRow w4.heap.size 40 1 (.slice (some ⟨w4.heap.size, 0, none⟩) 0 0) 0 []) := ⟨rfl, .inr ⟨w4.heap.size, 0, #[], rfl, Nat.le_refl _, heap_alloc_new w4.drew _, Nat.le_refl _, by simp [maxLen], rfl, rfl⟩⟩
    have S1 : Hid (Src (w4.drew.alloc (.cells #[] 40)) (some ad) cap (l.take pl)) := (HS.out.not CD).take pl
    have CD : Hid _ := CD
    have he : Hid _ := he
    have htk : Hid _ := htk
    have hdr : Hid _ := hdr
    have w1' : IntKind.i64.wrap ((pl : Int) + 1) = (pl : Int) + 1 := IntWalk.i64_in _ (by omega)
    have q1 : pl ≤ cap := by omega
    have q2 : pl + 1 ≤ len := hplt
    have q3 : (pl : Int) + 1 ≤ len := by omega
    have q5 : (0 : Int) ≤ (pl : Int) + 1 := by omega
    have q6 : (pl : Int) ≤ cap := by omega
    by_cases q4 : cap = pl + 1
    · subst q4
      have hlen : len = pl + 1 := by omega
      subst hlen
      have hi0 : i = 0 := by omega
      have hd0 : l.drop (pl + 1) = [] := List.drop_eq_nil_of_le (by omega)
      have q7 : (pl : Int) ≤ (pl : Int) + 1 := by omega
      go_wp2_with fail
      go_region_law (first
        | (refine step_app rfl (.tmp 86) (.tmp 89) rfl w4.heap.size (.slice (some ⟨w4.heap.size, 0, none⟩) 0 0) 0 [] (by simp [Act.eval]) E0.out (some ad) pl (pl + 1) (l.take pl) (by simp [Act.eval]) htk.out (S1.out) (by omega) (by simp) ?_; intro A1' c1' v1 hown hgrow; have R1 : Hid _ := hown; have G1 : Hid _ := hgrow; clear hown hgrow)
        | (refine step_app rfl (.tmp 90) (.tmp 94) rfl w4.heap.size (.slice A1' (0 + pl) c1') (0 + pl) ([] ++ (l.take pl).map (Value.int .u32)) (by simp [Act.eval]) R1.out (some ad) 0 (0) (l.drop (pl + 1)) (by simp [Act.eval]) (by rw [hd0]; rfl) (by rw [hd0]; exact ⟨fun h => (by cases h), fun ad' ha j u hu => by simp at hu⟩) (by omega) (Nat.le_trans (by simp) (Chg.of_grown G1.out).size) ?_; intro A2' c2' v2 hown hgrow; have R2 : Hid _ := hown; have G2 : Hid _ := hgrow; clear hown hgrow))
      have C20 : Chg Not w4 v2 := (((Chg.refl Not w4).drew.alloc (.cells #[] 40)).grown G1.out (fun k hk h => by injection hk with hk; have hk : w4.heap.size = k := hk; omega)).grown G2.out (fun k hk h => by have := (row_lt R1.out hk).1; omega)
      have R : Hid (v2.ownsRow w4.heap.size 40 1 (.slice A2' (pl + 1 - 1) c2') (pl + 1 - 1) ((l.eraseIdx pl).map (Value.int .u32))) := by
        have h := R2.out
        rw [List.nil_append, ← List.map_append, ← List.eraseIdx_eq_take_drop_succ, show 0 + pl + 0 = pl + 1 - 1 by simp] at h
        exact h
      have H3 : Hid _ := H5.out.not C20
      have C3 : Hid _ := C4.out.not C20
      have SA2 : Hid _ := SA.out.not C20
      clear R1 R2 G1 G2 H5 C4 SA C20 E0 S1
      have hY2 : Hid (∀ k y, (l.eraseIdx pl)[k]? = some y → (spun l pl 1)[k]? = some y) := fun k y hy => by
        rw [spun_one l pl x HX.out, List.getElem?_append_left (List.getElem?_eq_some_iff.1 hy).1]; exact hy
      go_wp2_with fail
      simp only [List.getElem_toArray, List.getElem_cons_succ, List.getElem_cons_zero]
      go_frame
      go_loopw [14, 15, 97] (fun _ _ v wr => ∃ (j : Nat), v = .int .i64 j ∧ j ≤ pl + 1 - 1 ∧ Hid (Chg Not v2 wr)) (fun _ _ v _ => pl + 1 - (intOf v).toNat)
      case atStart => exact ⟨0, rfl, by omega, Chg.refl _ _⟩
      case round =>
        obtain ⟨j, rfl, hj, HC⟩ := hrel
        by_cases hlt : j < pl + 1 - 1
        · obtain ⟨y, hy⟩ : ∃ y, (l.eraseIdx pl)[j]? = some y := ⟨(l.eraseIdx pl)[j]'(by rw [he.out]; omega), by simp⟩
          obtain ⟨g, hg, k1⟩ := own_cell (x := .int .u32 y) (HC.out.row R.out (fun _ _ h => h)) (by rw [List.getElem?_map, hy]; rfl)
          obtain ⟨ad2, hg2, k2⟩ := (SA2.out.not HC.out).cell (hY2.out j y hy)
          subst hg; subst hg2
          have g1 : (j : Int) < ((pl + 1 : Nat) : Int) := by omega
          clear hy
          go_wp2
          go_roundw
          case rel => exact ⟨j + 1, by go_num, by omega, HC⟩
          case measure => simp [intOf]; omega
        · have H6 := H3.out.not HC.out
          have C6 := C3.out.not HC.out
          have H6 : Hid _ := H6
          have C6 : Hid _ := C6
          clear H3 C3 HC
          go_wp2_with fail
          go_loopw [110] (fun v w7 => ∃ (j : Nat) (A : Option Addr) (c : Nat), v = .int .i64 j ∧ j ≤ i ∧ Hid (Stk W.heap.size w7 W.heap.size A c ⟨spun l pl (1 + j), 60, -3, -4⟩) ∧ Hid (Chg Not W w7)) (fun v _ => i - (intOf v).toNat)
          case atStart => exact ⟨0, A3, c3, rfl, by omega, H6, C6⟩
          case round =>
            clear H6 C6
            obtain ⟨j2, A7, c7, rfl, hj2, H, C⟩ := hrel
            by_cases hlt2 : j2 < i
            · exfalso; omega
            · have hj3 : j2 = i := by omega
              have HE : Hid (spun l pl (1 + j2) = l) := spun_end l pl (1 + j2) (by omega)
              go_wp2_with fail
              refine (all_is H.out (pl + 1) (by show (spun l pl (1 + j2)).length = pl + 1; rw [spun_length]; exact hl)).mono ?_
              rintro e w9 ⟨A9, c9, rfl, h1, h2⟩
              have S9 : Hid (Src w9 A9 c9 l) := by
                have := Src.own h1
                rw [HE.out] at this; exact this
              have C9 : Hid (Chg Not W w9) := C.out.not h2
              clear h1 h2 H C
              go_wp2_with fail
              refine (cells_is true S9.out (HS.out.not C9.out) hl hl (by omega) (by omega) (by simp)).mono ?_
              rintro e w10 ⟨rfl, h2⟩
              have C10 : Hid (Chg Not W w10) := C9.out.not h2
              clear h2 C9 S9
              go_wp2_with fail
              refine (awake_any _).mono ?_
              rintro e w11 ⟨rfl, h2⟩
              have C11 : Hid (Chg Not W w11) := C10.out.not h2
              clear h2 C10
              go_wp2
              go_ret
              exact ⟨rfl, C11.out⟩
    · have e1 : pl + (len - (pl + 1)) = len - 1 := by omega
      have hfar : ∀ ad' : Addr, some (ad.add (pl + 1)) = some ad' → some ad'.block = (Value.slice (some ⟨w4.heap.size, 0, none⟩) 0 0).ownBlock → False := fun ad' ha hb => by
        injection ha with ha; subst ha
        injection hb with hb
        have h1 : (ad.add (pl + 1)).block = ad.block := by unfold Addr.add; split <;> rfl
        have h2 : ad.block < w4.heap.size := hadlt
        have h3 : (ad.add (pl + 1)).block = w4.heap.size := hb
        omega
      go_wp2_with fail
      go_region_law (first
        | (refine step_app rfl (.tmp 86) (.tmp 89) rfl w4.heap.size (.slice (some ⟨w4.heap.size, 0, none⟩) 0 0) 0 [] (by simp [Act.eval]) E0.out (some ad) pl cap (l.take pl) (by simp [Act.eval]) htk.out (S1.out) (by omega) (by simp) ?_; intro A1' c1' v1 hown hgrow; have R1 : Hid _ := hown; have G1 : Hid _ := hgrow; clear hown hgrow)
        | (refine step_app rfl (.tmp 90) (.tmp 94) rfl w4.heap.size (.slice A1' (0 + pl) c1') (0 + pl) ([] ++ (l.take pl).map (Value.int .u32)) (by simp [Act.eval]) R1.out (some (ad.add (pl + 1))) (len - (pl + 1)) (cap - (pl + 1)) (l.drop (pl + 1)) (by simp [Act.eval, Addr.add]) hdr.out ((((HS.out.not CD.out).drop (pl + 1) _).chg (Chg.of_grown G1.out) (fun ad' ha he' => hfar ad' ha he'))) (by omega) (Nat.le_trans (by simp) (Chg.of_grown G1.out).size) ?_; intro A2' c2' v2 hown hgrow; have R2 : Hid _ := hown; have G2 : Hid _ := hgrow; clear hown hgrow))
      have C20 : Chg Not w4 v2 := (((Chg.refl Not w4).drew.alloc (.cells #[] 40)).grown G1.out (fun k hk h => by injection hk with hk; have hk : w4.heap.size = k := hk; omega)).grown G2.out (fun k hk h => by have := (row_lt R1.out hk).1; omega)
      have R : Hid (v2.ownsRow w4.heap.size 40 1 (.slice A2' (len - 1) c2') (len - 1) ((l.eraseIdx pl).map (Value.int .u32))) := by
        have h := R2.out
        rw [List.nil_append, ← List.map_append, ← List.eraseIdx_eq_take_drop_succ, show 0 + pl + (len - (pl + 1)) = len - 1 by omega] at h
        exact h
      have H3 : Hid _ := H5.out.not C20
      have C3 : Hid _ := C4.out.not C20
      have SA2 : Hid _ := SA.out.not C20
      clear R1 R2 G1 G2 H5 C4 SA C20 E0 S1
      have hY2 : Hid (∀ k y, (l.eraseIdx pl)[k]? = some y → (spun l pl 1)[k]? = some y) := fun k y hy => by
        rw [spun_one l pl x HX.out, List.getElem?_append_left (List.getElem?_eq_some_iff.1 hy).1]; exact hy
      go_wp2_with fail
      simp only [List.getElem_toArray, List.getElem_cons_succ, List.getElem_cons_zero]
      go_frame
      go_loopw [14, 15, 97] (fun _ _ v wr => ∃ (j : Nat), v = .int .i64 j ∧ j ≤ len - 1 ∧ Hid (Chg Not v2 wr)) (fun _ _ v _ => len - (intOf v).toNat)
      case atStart => exact ⟨0, rfl, by omega, Chg.refl _ _⟩
      case round =>
        obtain ⟨j, rfl, hj, HC⟩ := hrel
        by_cases hlt : j < len - 1
        · obtain ⟨y, hy⟩ : ∃ y, (l.eraseIdx pl)[j]? = some y := ⟨(l.eraseIdx pl)[j]'(by rw [he.out]; omega), by simp⟩
          obtain ⟨g, hg, k1⟩ := own_cell (x := .int .u32 y) (HC.out.row R.out (fun _ _ h => h)) (by rw [List.getElem?_map, hy]; rfl)
          obtain ⟨ad2, hg2, k2⟩ := (SA2.out.not HC.out).cell (hY2.out j y hy)
          subst hg; subst hg2
          have g1 : (j : Int) < (len : Int) := by omega
          clear hy
          go_wp2
          go_roundw
          case rel => exact ⟨j + 1, by go_num, by omega, HC⟩
          case measure => simp [intOf]; omega
        · have H6 := H3.out.not HC.out
          have C6 := C3.out.not HC.out
          have H6 : Hid _ := H6
          have C6 : Hid _ := C6
          clear H3 C3 HC
          go_wp2_with fail
          go_loopw [110] (fun v w7 => ∃ (j : Nat) (A : Option Addr) (c : Nat), v = .int .i64 j ∧ j ≤ i ∧ Hid (Stk W.heap.size w7 W.heap.size A c ⟨spun l pl (1 + j), 60, -3, -4⟩) ∧ Hid (Chg Not W w7)) (fun v _ => i - (intOf v).toNat)
          case atStart => exact ⟨0, A3, c3, rfl, by omega, H6, C6⟩
          case round =>
            clear H6 C6
            obtain ⟨j2, A7, c7, rfl, hj2, H, C⟩ := hrel
            by_cases hlt2 : j2 < i
            · go_wp2_with fail
              refine (roll_yes H.out C.out.size i (spun l pl (1 + (j2 + 1))) (by show i < (spun l pl (1 + j2)).length; rw [spun_length]; omega) (by exact spun_step l pl (1 + j2) i (by omega) (by omega))).mono ?_
              rintro e w8 ⟨rfl, h1, A8, c8, h8, -⟩
              have C2 : Hid (Chg Not W w8) := C.out.foot H.out h1
              have H2 : Hid (Stk W.heap.size w8 W.heap.size A8 c8 ⟨spun l pl (1 + (j2 + 1)), 60, -3, -4⟩) := h8
              clear h1 h8 H C
              go_wp2
              go_roundw
              case rel => exact ⟨j2 + 1, A8, c8, by go_num, by omega, H2, C2⟩
              case measure => simp [intOf]; omega
            · have hj3 : j2 = i := by omega
              have HE : Hid (spun l pl (1 + j2) = l) := spun_end l pl (1 + j2) (by omega)
              go_wp2_with fail
              refine (all_is H.out len (by show (spun l pl (1 + j2)).length = len; rw [spun_length]; exact hl)).mono ?_
              rintro e w9 ⟨A9, c9, rfl, h1, h2⟩
              have S9 : Hid (Src w9 A9 c9 l) := by
                have := Src.own h1
                rw [HE.out] at this; exact this
              have C9 : Hid (Chg Not W w9) := C.out.not h2
              clear h1 h2 H C
              go_wp2_with fail
              refine (cells_is true S9.out (HS.out.not C9.out) hl hl (by omega) (by omega) (by simp)).mono ?_
              rintro e w10 ⟨rfl, h2⟩
              have C10 : Hid (Chg Not W w10) := C9.out.not h2
              clear h2 C9 S9
              go_wp2_with fail
              refine (awake_any _).mono ?_
              rintro e w11 ⟨rfl, h2⟩
              have C11 : Hid (Chg Not W w11) := C10.out.not h2
              clear h2 C10
              go_wp2
              go_ret
              exact ⟨rfl, C11.out⟩
  · by_cases hz : len = 0
    · subst hz
      go_enter Try.func5, Try.ntmps5
      go_wp2_with fail
      refine (awake_any _).mono ?_
      rintro e w4 ⟨rfl, h4⟩
      have h5 : Hid _ := h4
      clear h4
      go_wp2
      go_ret
      exact ⟨rfl, h5.out⟩
    · have b0 : decide (60 < (len : Int)) = true := decide_eq_true (by omega)
      have b1 : ((len : Int) == 0) = false := beq_eq_false_iff_ne.mpr (by omega)
      go_enter Try.func5, Try.ntmps5
      go_wp2_with fail
      refine (awake_any _).mono ?_
      rintro e w4 ⟨rfl, h4⟩
      have h5 : Hid _ := h4
      clear h4
      go_wp2
      go_ret
      exact ⟨rfl, h5.out⟩
end Go.Proofs.Yteoghagknececaa
