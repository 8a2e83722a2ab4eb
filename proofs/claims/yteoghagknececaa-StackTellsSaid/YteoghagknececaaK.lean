/- StackBack: printed by wip/stack/genK.py. -/
import Derived.Test.YteoghagknececaaJ
namespace Go.Proofs.Yteoghagknececaa
open Go.RowKit Go.Proofs.YteoghagknececaaW.PrintWords Go.Proofs.YteoghagknececaaW.PrintMore
set_option linter.unusedVariables false
attribute [local go_sem] min2_int min_two min_three

theorem take_snoc {l : List Int} {j : Nat} {x : Int} (h : l[j]? = some x) : l.take (j + 1) = l.take j ++ [x] := by
  rw [List.take_add_one, h]; rfl
theorem Src.take {W : World} {X : Option Addr} {c : Nat} {ys : List Int} (h : Src W X c ys) (k : Nat) : Src W X c (ys.take k) := by
  refine ⟨fun hx => ⟨by rw [(h.non hx).1]; simp, (h.non hx).2⟩, fun ad ha j u hu => h.at' ad ha j u ?_⟩
  rw [List.map_take, List.getElem?_take] at hu
  split at hu
  · exact hu
  · cases hu
theorem len_is {B : Nat} {W : World} {p : Nat} {A : Option Addr} {c : Nat} {s : St} (h : Stk B W p A c s) (z : Int) (hz : (s.cells.length : Int) = z) :
    Calls Try.prog 11 #[ptr p] W fun e W' => e = .returned (.int .i64 z) ∧ W = W' := by subst hz; exact len_any h
theorem may_zero (s : St) (g : Nat) : s.may 0 g = if s.most = 0 then s.few else if (g : Int) > s.most - (s.cells.length : Int) then s.over else 0 := by
  unfold St.may mx
  simp only [Int.lt_irrefl, if_false]
  have h1 : ¬ ((g : Int) < 0) := by omega
  have h2 : ¬ ((s.cells.length : Int) < 0) := by omega
  simp only [h1, if_false, h2, or_false, Int.sub_zero]

set_option maxRecDepth 100000 in
set_option maxHeartbeats 8000000 in
theorem back_any (W : World) (a0 : Int) (h0 : 0 ≤ a0) (h255 : a0 ≤ 255) (X : Option Addr) (len cap : Nat) (l : List Int) (hl : l.length = len) (hb : len ≤ 2 ^ 47) (hcap : len ≤ cap) (hs : Src W X cap l) :
    Calls Try.prog 4 #[.int .u8 a0, .slice X len cap] W fun e W' => e = .returned (.bool true) ∧ Chg Not W W' := by
  obtain ⟨n, hn⟩ : ∃ n : Nat, (n : Int) = 1 + a0 := ⟨(1 + a0).toNat, by omega⟩
  have HS : Hid (Src W X cap l) := hs
  clear hs
  by_cases c2 : 1 + a0 < (len : Int)
  · have d1 : ¬ (300 < 1 + a0) := by omega
    by_cases c1 : 300 < (len : Int)
    · have c5 : (300 : Int) ≤ cap := by omega
      go_enter Try.func4, Try.ntmps4
      go_wp2_with fail
      refine (new_ok W (1 + a0) (-3) (-4) (by omega) (by omega) (by decide) (by decide) (Nat.le_refl _)).mono ?_
      rintro e w1 ⟨rfl, h1, C1⟩
      have H : Hid (Stk W.heap.size w1 W.heap.size none 0 ⟨[], 1 + a0, -3, -4⟩) := h1
      have C : Hid (Chg Not W w1) := C1
      clear h1 C1
      go_wp2_with fail
      go_loopw [8, 9, 10, 33] (fun _ _ _ v wr => ∃ (j : Nat) (A : Option Addr) (c : Nat) (cs : List Int), v = .int .i64 j ∧ j ≤ 300 ∧ cs.length = min j n ∧ Hid (cs = l.take (min j n)) ∧ Hid (Stk W.heap.size wr W.heap.size A c ⟨cs, 1 + a0, -3, -4⟩) ∧ Hid (Chg Not W wr)) (fun _ _ _ v _ => 300 - (intOf v).toNat)
      case atStart => exact ⟨0, none, 0, [], rfl, by omega, by simp, by show [] = _; simp, H, C⟩
      case round =>
        clear H C
        obtain ⟨j, A, c, cs, rfl, hj, hcs, HT, H, C⟩ := hrel
        by_cases hlt : j < 300
        · obtain ⟨x, hx⟩ : ∃ x, l[j]? = some x := ⟨l[j]'(by omega), by simp⟩
          obtain ⟨ad, rfl, k0⟩ := (HS.out.not C.out).cell hx
          by_cases hjn : j < n
          · have b0 : decide ((j : Int) < 1 + a0) = true := decide_eq_true (by omega)
            have HX : Hid (cs ++ [x] = l.take (min (j + 1) n)) := by show _ = _; rw [HT.out, Nat.min_eq_left (by omega), Nat.min_eq_left (by omega), take_snoc hx]
            have hmay : Hid (St.may ⟨cs, 1 + a0, -3, -4⟩ 0 (1 : Nat) = 0) := by show _ = _; rw [may_zero, if_neg (by show ¬ (1 + a0 = 0); omega), if_neg (by show ¬ ((1 : Nat) : Int) > 1 + a0 - (cs.length : Int); omega)]
            clear hx
            go_wp2_with fail
            refine (push_yes (H.out.not ((Chg.refl _ _).alloc _)) (Nat.le_trans C.out.size (by simp)) _ _ _ [x] (cs ++ [x]) rfl (src_build wr [x]) hmay.out (by show (cs.length + (1 : Nat) : Int) ≤ 1 + a0; omega) rfl).mono ?_
            rintro e w2 ⟨rfl, h1, A2, c2, h2, -⟩
            have C2 : Hid (Chg Not W w2) := (C.out.not ((Chg.refl _ _).alloc _)).foot (H.out.not ((Chg.refl _ _).alloc _)) h1
            have H2 : Hid (Stk W.heap.size w2 W.heap.size A2 c2 ⟨cs ++ [x], 1 + a0, -3, -4⟩) := h2
            clear h1 h2
            go_wp2
            go_roundw
            case rel => exact ⟨j + 1, A2, c2, cs ++ [x], by go_num, by omega, by simp; omega, HX, H2, C2⟩
            case measure => simp [intOf]; omega
          · have b0 : decide ((j : Int) < 1 + a0) = false := decide_eq_false (by omega)
            have HX : Hid (cs = l.take (min (j + 1) n)) := by show _ = _; rw [HT.out, Nat.min_eq_right (by omega), Nat.min_eq_right (by omega)]
            have hmay : Hid (St.may ⟨cs, 1 + a0, -3, -4⟩ 0 (1 : Nat) = -3) := by show _ = _; rw [may_zero, if_neg (by show ¬ (1 + a0 = 0); omega), if_pos (by show ((1 : Nat) : Int) > 1 + a0 - (cs.length : Int); omega)]
            clear hx
            go_wp2_with fail
            refine (push_no (H.out.not ((Chg.refl _ _).alloc _)) _ 1 _ (-3) (by decide) hmay.out (by decide)).mono ?_
            rintro e w' ⟨rfl, rfl⟩
            have C2 := C.out.not ((Chg.refl _ _).alloc (.cells #[.int .u32 x] 40))
            have H2 := H.out.not ((Chg.refl _ _).alloc (.cells #[.int .u32 x] 40))
            have C2 : Hid _ := C2
            have H2 : Hid _ := H2
            generalize World.alloc wr (.cells #[.int .u32 x] 40) = w2 at C2 H2 ⊢
            go_wp2
            go_roundw
            case rel => exact ⟨j + 1, A, c, cs, by go_num, by omega, by omega, HX, H2, C2⟩
            case measure => simp [intOf]; omega
        · have hjk : j = 300 := by omega
          have hq : (cs.length : Int) = (1 + a0) := by omega
          have HT2 : Hid (cs = l.take cs.length) := by show _ = _; rw [hcs]; exact HT.out
          go_wp2_with fail
          refine (len_is H.out ((1 + a0)) hq).mono ?_
          rintro e w' ⟨rfl, rfl⟩
          go_wp2_with fail
          go_loopw [12, 13, 14] (fun v _ _ w2 => ∃ (q : Nat), v = .int .i64 ((q : Int) - 1) ∧ q ≤ cs.length ∧ Hid (Stk W.heap.size w2 W.heap.size A c ⟨l.take q, 1 + a0, -3, -4⟩) ∧ Hid (Chg Not W w2)) (fun v _ _ _ => (intOf v + 1).toNat)
          case atStart =>
            refine ⟨cs.length, ?_, Nat.le_refl _, ?_, C⟩
            · rw [hq]
            · rw [← HT2.out]; exact H
          case round =>
            clear H C HT
            obtain ⟨q, rfl, hqc, H, C⟩ := hrel
            rcases q with _ | q
            · go_wp2_with fail
              refine (pop_no H.out (-4) (by rfl) (by unfold St.few; rw [if_neg (by show ¬ (1 + a0 = 0); omega)])).mono ?_
              rintro e w' ⟨rfl, rfl⟩
              go_wp2_with fail
              refine (awake_any _).mono ?_
              rintro e w4 ⟨rfl, h4⟩
              have h5 := C.out.not h4
              have h5 : Hid _ := h5
              clear h4
              go_wp2
              go_ret
              exact ⟨rfl, h5.out⟩
            · have hqk : q < 300 := by omega
              obtain ⟨x, hx⟩ : ∃ x, l[q]? = some x := ⟨l[q]'(by omega), by simp⟩
              obtain ⟨ad, rfl, k0⟩ := (HS.out.not C.out).cell hx
              have e1 : ((q + 1 : Nat) : Int) - 1 = (q : Int) := by omega
              have HX : Hid (l.take (q + 1) = l.take q ++ [x]) := take_snoc hx
              have HX0 : Hid (l[q]? = some x) := hx
              have hlq : ((l.take q).length : Int) = q := by rw [List.length_take]; omega
              have g0 : (0 : Int) ≤ q := by omega
              clear hx
              rw [e1]
              go_wp2_with fail
              refine (pop_ok H.out x (l.take q) HX.out).mono ?_
              rintro e w3 ⟨rfl, h2, h1⟩
              have C2 : Hid (Chg Not W w3) := C.out.one H.out h1
              have H2 : Hid (Stk W.heap.size w3 W.heap.size A c ⟨l.take q, 1 + a0, -3, -4⟩) := h2
              have k0 : w3.cell? (ad.add q) = some (.int .u32 x) := by
                obtain ⟨ad', hh, hk⟩ := (HS.out.not C2.out).cell (k := q) (x := x) HX0.out
                injection hh with hh; subst hh; exact hk
              clear h1 h2
              go_wp2_with fail
              refine (len_is H2.out (q : Int) hlq).mono ?_
              rintro e w' ⟨rfl, rfl⟩
              go_wp2
              go_roundw
              case rel => exact ⟨q, by go_num, by omega, H2, C2⟩
              case measure => simp [intOf]
    · have c5 : (len : Int) ≤ cap := by omega
      go_enter Try.func4, Try.ntmps4
      go_wp2_with fail
      refine (new_ok W (1 + a0) (-3) (-4) (by omega) (by omega) (by decide) (by decide) (Nat.le_refl _)).mono ?_
      rintro e w1 ⟨rfl, h1, C1⟩
      have H : Hid (Stk W.heap.size w1 W.heap.size none 0 ⟨[], 1 + a0, -3, -4⟩) := h1
      have C : Hid (Chg Not W w1) := C1
      clear h1 C1
      go_wp2_with fail
      go_loopw [8, 9, 10, 33] (fun _ _ _ v wr => ∃ (j : Nat) (A : Option Addr) (c : Nat) (cs : List Int), v = .int .i64 j ∧ j ≤ len ∧ cs.length = min j n ∧ Hid (cs = l.take (min j n)) ∧ Hid (Stk W.heap.size wr W.heap.size A c ⟨cs, 1 + a0, -3, -4⟩) ∧ Hid (Chg Not W wr)) (fun _ _ _ v _ => len - (intOf v).toNat)
      case atStart => exact ⟨0, none, 0, [], rfl, by omega, by simp, by show [] = _; simp, H, C⟩
      case round =>
        clear H C
        obtain ⟨j, A, c, cs, rfl, hj, hcs, HT, H, C⟩ := hrel
        by_cases hlt : j < len
        · obtain ⟨x, hx⟩ : ∃ x, l[j]? = some x := ⟨l[j]'(by omega), by simp⟩
          obtain ⟨ad, rfl, k0⟩ := (HS.out.not C.out).cell hx
          by_cases hjn : j < n
          · have b0 : decide ((j : Int) < 1 + a0) = true := decide_eq_true (by omega)
            have HX : Hid (cs ++ [x] = l.take (min (j + 1) n)) := by show _ = _; rw [HT.out, Nat.min_eq_left (by omega), Nat.min_eq_left (by omega), take_snoc hx]
            have hmay : Hid (St.may ⟨cs, 1 + a0, -3, -4⟩ 0 (1 : Nat) = 0) := by show _ = _; rw [may_zero, if_neg (by show ¬ (1 + a0 = 0); omega), if_neg (by show ¬ ((1 : Nat) : Int) > 1 + a0 - (cs.length : Int); omega)]
            clear hx
            go_wp2_with fail
            refine (push_yes (H.out.not ((Chg.refl _ _).alloc _)) (Nat.le_trans C.out.size (by simp)) _ _ _ [x] (cs ++ [x]) rfl (src_build wr [x]) hmay.out (by show (cs.length + (1 : Nat) : Int) ≤ 1 + a0; omega) rfl).mono ?_
            rintro e w2 ⟨rfl, h1, A2, c2, h2, -⟩
            have C2 : Hid (Chg Not W w2) := (C.out.not ((Chg.refl _ _).alloc _)).foot (H.out.not ((Chg.refl _ _).alloc _)) h1
            have H2 : Hid (Stk W.heap.size w2 W.heap.size A2 c2 ⟨cs ++ [x], 1 + a0, -3, -4⟩) := h2
            clear h1 h2
            go_wp2
            go_roundw
            case rel => exact ⟨j + 1, A2, c2, cs ++ [x], by go_num, by omega, by simp; omega, HX, H2, C2⟩
            case measure => simp [intOf]; omega
          · have b0 : decide ((j : Int) < 1 + a0) = false := decide_eq_false (by omega)
            have HX : Hid (cs = l.take (min (j + 1) n)) := by show _ = _; rw [HT.out, Nat.min_eq_right (by omega), Nat.min_eq_right (by omega)]
            have hmay : Hid (St.may ⟨cs, 1 + a0, -3, -4⟩ 0 (1 : Nat) = -3) := by show _ = _; rw [may_zero, if_neg (by show ¬ (1 + a0 = 0); omega), if_pos (by show ((1 : Nat) : Int) > 1 + a0 - (cs.length : Int); omega)]
            clear hx
            go_wp2_with fail
            refine (push_no (H.out.not ((Chg.refl _ _).alloc _)) _ 1 _ (-3) (by decide) hmay.out (by decide)).mono ?_
            rintro e w' ⟨rfl, rfl⟩
            have C2 := C.out.not ((Chg.refl _ _).alloc (.cells #[.int .u32 x] 40))
            have H2 := H.out.not ((Chg.refl _ _).alloc (.cells #[.int .u32 x] 40))
            have C2 : Hid _ := C2
            have H2 : Hid _ := H2
            generalize World.alloc wr (.cells #[.int .u32 x] 40) = w2 at C2 H2 ⊢
            go_wp2
            go_roundw
            case rel => exact ⟨j + 1, A, c, cs, by go_num, by omega, by omega, HX, H2, C2⟩
            case measure => simp [intOf]; omega
        · have hjk : j = len := by omega
          have hq : (cs.length : Int) = (1 + a0) := by omega
          have HT2 : Hid (cs = l.take cs.length) := by show _ = _; rw [hcs]; exact HT.out
          go_wp2_with fail
          refine (len_is H.out ((1 + a0)) hq).mono ?_
          rintro e w' ⟨rfl, rfl⟩
          go_wp2_with fail
          go_loopw [12, 13, 14] (fun v _ _ w2 => ∃ (q : Nat), v = .int .i64 ((q : Int) - 1) ∧ q ≤ cs.length ∧ Hid (Stk W.heap.size w2 W.heap.size A c ⟨l.take q, 1 + a0, -3, -4⟩) ∧ Hid (Chg Not W w2)) (fun v _ _ _ => (intOf v + 1).toNat)
          case atStart =>
            refine ⟨cs.length, ?_, Nat.le_refl _, ?_, C⟩
            · rw [hq]
            · rw [← HT2.out]; exact H
          case round =>
            clear H C HT
            obtain ⟨q, rfl, hqc, H, C⟩ := hrel
            rcases q with _ | q
            · go_wp2_with fail
              refine (pop_no H.out (-4) (by rfl) (by unfold St.few; rw [if_neg (by show ¬ (1 + a0 = 0); omega)])).mono ?_
              rintro e w' ⟨rfl, rfl⟩
              go_wp2_with fail
              refine (awake_any _).mono ?_
              rintro e w4 ⟨rfl, h4⟩
              have h5 := C.out.not h4
              have h5 : Hid _ := h5
              clear h4
              go_wp2
              go_ret
              exact ⟨rfl, h5.out⟩
            · have hqk : q < len := by omega
              obtain ⟨x, hx⟩ : ∃ x, l[q]? = some x := ⟨l[q]'(by omega), by simp⟩
              obtain ⟨ad, rfl, k0⟩ := (HS.out.not C.out).cell hx
              have e1 : ((q + 1 : Nat) : Int) - 1 = (q : Int) := by omega
              have HX : Hid (l.take (q + 1) = l.take q ++ [x]) := take_snoc hx
              have HX0 : Hid (l[q]? = some x) := hx
              have hlq : ((l.take q).length : Int) = q := by rw [List.length_take]; omega
              have g0 : (0 : Int) ≤ q := by omega
              clear hx
              rw [e1]
              go_wp2_with fail
              refine (pop_ok H.out x (l.take q) HX.out).mono ?_
              rintro e w3 ⟨rfl, h2, h1⟩
              have C2 : Hid (Chg Not W w3) := C.out.one H.out h1
              have H2 : Hid (Stk W.heap.size w3 W.heap.size A c ⟨l.take q, 1 + a0, -3, -4⟩) := h2
              have k0 : w3.cell? (ad.add q) = some (.int .u32 x) := by
                obtain ⟨ad', hh, hk⟩ := (HS.out.not C2.out).cell (k := q) (x := x) HX0.out
                injection hh with hh; subst hh; exact hk
              clear h1 h2
              go_wp2_with fail
              refine (len_is H2.out (q : Int) hlq).mono ?_
              rintro e w' ⟨rfl, rfl⟩
              go_wp2
              go_roundw
              case rel => exact ⟨q, by go_num, by omega, H2, C2⟩
              case measure => simp [intOf]
  · have c1 : ¬ (300 < (len : Int)) := by omega
    go_enter Try.func4, Try.ntmps4
    go_wp2_with fail
    refine (new_ok W (1 + a0) (-3) (-4) (by omega) (by omega) (by decide) (by decide) (Nat.le_refl _)).mono ?_
    rintro e w1 ⟨rfl, h1, C1⟩
    have H : Hid (Stk W.heap.size w1 W.heap.size none 0 ⟨[], 1 + a0, -3, -4⟩) := h1
    have C : Hid (Chg Not W w1) := C1
    clear h1 C1
    go_wp2_with fail
    go_loopw [8, 9, 10, 33] (fun _ _ _ v wr => ∃ (j : Nat) (A : Option Addr) (c : Nat) (cs : List Int), v = .int .i64 j ∧ j ≤ len ∧ cs.length = min j n ∧ Hid (cs = l.take (min j n)) ∧ Hid (Stk W.heap.size wr W.heap.size A c ⟨cs, 1 + a0, -3, -4⟩) ∧ Hid (Chg Not W wr)) (fun _ _ _ v _ => len - (intOf v).toNat)
    case atStart => exact ⟨0, none, 0, [], rfl, by omega, by simp, by show [] = _; simp, H, C⟩
    case round =>
      clear H C
      obtain ⟨j, A, c, cs, rfl, hj, hcs, HT, H, C⟩ := hrel
      by_cases hlt : j < len
      · obtain ⟨x, hx⟩ : ∃ x, l[j]? = some x := ⟨l[j]'(by omega), by simp⟩
        obtain ⟨ad, rfl, k0⟩ := (HS.out.not C.out).cell hx
        by_cases hjn : j < n
        · have b0 : decide ((j : Int) < 1 + a0) = true := decide_eq_true (by omega)
          have HX : Hid (cs ++ [x] = l.take (min (j + 1) n)) := by show _ = _; rw [HT.out, Nat.min_eq_left (by omega), Nat.min_eq_left (by omega), take_snoc hx]
          have hmay : Hid (St.may ⟨cs, 1 + a0, -3, -4⟩ 0 (1 : Nat) = 0) := by show _ = _; rw [may_zero, if_neg (by show ¬ (1 + a0 = 0); omega), if_neg (by show ¬ ((1 : Nat) : Int) > 1 + a0 - (cs.length : Int); omega)]
          clear hx
          go_wp2_with fail
          refine (push_yes (H.out.not ((Chg.refl _ _).alloc _)) (Nat.le_trans C.out.size (by simp)) _ _ _ [x] (cs ++ [x]) rfl (src_build wr [x]) hmay.out (by show (cs.length + (1 : Nat) : Int) ≤ 1 + a0; omega) rfl).mono ?_
          rintro e w2 ⟨rfl, h1, A2, c2, h2, -⟩
          have C2 : Hid (Chg Not W w2) := (C.out.not ((Chg.refl _ _).alloc _)).foot (H.out.not ((Chg.refl _ _).alloc _)) h1
          have H2 : Hid (Stk W.heap.size w2 W.heap.size A2 c2 ⟨cs ++ [x], 1 + a0, -3, -4⟩) := h2
          clear h1 h2
          go_wp2
          go_roundw
          case rel => exact ⟨j + 1, A2, c2, cs ++ [x], by go_num, by omega, by simp; omega, HX, H2, C2⟩
          case measure => simp [intOf]; omega
        · exfalso; omega

      · have hjk : j = len := by omega
        have hq : (cs.length : Int) = (len : Int) := by omega
        have HT2 : Hid (cs = l.take cs.length) := by show _ = _; rw [hcs]; exact HT.out
        go_wp2_with fail
        refine (len_is H.out ((len : Int)) hq).mono ?_
        rintro e w' ⟨rfl, rfl⟩
        go_wp2_with fail
        go_loopw [12, 13, 14] (fun v _ _ w2 => ∃ (q : Nat), v = .int .i64 ((q : Int) - 1) ∧ q ≤ cs.length ∧ Hid (Stk W.heap.size w2 W.heap.size A c ⟨l.take q, 1 + a0, -3, -4⟩) ∧ Hid (Chg Not W w2)) (fun v _ _ _ => (intOf v + 1).toNat)
        case atStart =>
          refine ⟨cs.length, ?_, Nat.le_refl _, ?_, C⟩
          · rw [hq]
          · rw [← HT2.out]; exact H
        case round =>
          clear H C HT
          obtain ⟨q, rfl, hqc, H, C⟩ := hrel
          rcases q with _ | q
          · go_wp2_with fail
            refine (pop_no H.out (-4) (by rfl) (by unfold St.few; rw [if_neg (by show ¬ (1 + a0 = 0); omega)])).mono ?_
            rintro e w' ⟨rfl, rfl⟩
            go_wp2_with fail
            refine (awake_any _).mono ?_
            rintro e w4 ⟨rfl, h4⟩
            have h5 := C.out.not h4
            have h5 : Hid _ := h5
            clear h4
            go_wp2
            go_ret
            exact ⟨rfl, h5.out⟩
          · have hqk : q < len := by omega
            obtain ⟨x, hx⟩ : ∃ x, l[q]? = some x := ⟨l[q]'(by omega), by simp⟩
            obtain ⟨ad, rfl, k0⟩ := (HS.out.not C.out).cell hx
            have e1 : ((q + 1 : Nat) : Int) - 1 = (q : Int) := by omega
            have HX : Hid (l.take (q + 1) = l.take q ++ [x]) := take_snoc hx
            have HX0 : Hid (l[q]? = some x) := hx
            have hlq : ((l.take q).length : Int) = q := by rw [List.length_take]; omega
            have g0 : (0 : Int) ≤ q := by omega
            clear hx
            rw [e1]
            go_wp2_with fail
            refine (pop_ok H.out x (l.take q) HX.out).mono ?_
            rintro e w3 ⟨rfl, h2, h1⟩
            have C2 : Hid (Chg Not W w3) := C.out.one H.out h1
            have H2 : Hid (Stk W.heap.size w3 W.heap.size A c ⟨l.take q, 1 + a0, -3, -4⟩) := h2
            have k0 : w3.cell? (ad.add q) = some (.int .u32 x) := by
              obtain ⟨ad', hh, hk⟩ := (HS.out.not C2.out).cell (k := q) (x := x) HX0.out
              injection hh with hh; subst hh; exact hk
            clear h1 h2
            go_wp2_with fail
            refine (len_is H2.out (q : Int) hlq).mono ?_
            rintro e w' ⟨rfl, rfl⟩
            go_wp2
            go_roundw
            case rel => exact ⟨q, by go_num, by omega, H2, C2⟩
            case measure => simp [intOf]
end Go.Proofs.Yteoghagknececaa
