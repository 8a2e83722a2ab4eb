-- WRITTEN BY xprint.py, a program of this session over the kit's print
import Derived.Test.YtnlmndafmgkcfaaPrint0
import Derived.Test.YtnlmndafmgkcfaaPrint1
namespace Go.Proofs.Ytnlmndafmgkcfaa.Print
open Go.RowKit Go.Proofs.YtnlmndafmgkcfaaW.PrintWords Go.Proofs.YtnlmndafmgkcfaaW.PrintLast Go.Proofs.YtnlmndafmgkcfaaW.PrintMore
attribute [local go_sem] max2_int min2_int max_two min_two max_three min_three max_four min_four   -- for this text's walks alone
open Go.Proofs.Ytnlmndafmgkcfaa.Ext
set_option linter.unusedVariables false
set_option linter.unusedSimpArgs false

/-! ### lightshiplaw16_ParsePlaces: function 6 -/
def lightshiplaw16_ParsePlaces.j0 : Nat → ByteArray → Int → ByteArray → Int → Bool → Option (Bool)
  | 0, _, _, _, _, _ => none
  | k + 1, x0, x7, x8, x9, x85 => if x85 = true then (some false) else (if 2 + x0.size ≤ 9223372036854775807 then ((parse_Next.f ((⟨#[32, 9]⟩ : ByteArray) ++ x0) x7).bind fun bt203 => (if x7 = 0 then (if bt203.1.toList = x8.toList then (if bt203.2 = (wrap64 (x9 + 2)) then ((lightshiplaw16_awake.f).bind fun t205 => (some t205)) else (some false)) else (some false)) else (if bt203.2 ≥ 0 then (if bt203.2 ≤ (wrap64 ((x0.size : Int) + 2)) then ((lightshiplaw16_awake.f).bind fun t206 => (some t206)) else (some false)) else (some false)))) else (none))
def lightshiplaw16_ParsePlaces.f (k : Nat) (a0 : ByteArray) (a1 : Int) (a2 : Int) : Option (Bool) := if (a0.size : Int) > 300 then ((lightshiplaw16_awake.f).bind fun t192 => (some t192)) else ((parse_Next.f a0 a1).bind fun bt193 => (if 0 ≤ (mn (mx a1 0) (a0.size : Int)) then (if (mn (mx a1 0) (a0.size : Int)) ≤ (a0.size : Int) then ((parse_Next.f (a0.extract ((mn (mx a1 0) (a0.size : Int)) : Int).toNat a0.size) 0).bind fun bt195 => ((parse_Until.f a0 a1 a2).bind fun bt197 => ((parse_Until.f (a0.extract ((mn (mx a1 0) (a0.size : Int)) : Int).toNat a0.size) 0 a2).bind fun bt200 => (if bt193.1.toList = bt195.1.toList then (if bt193.2 = (wrap64 (bt195.2 + (mn (mx a1 0) (a0.size : Int)))) then (if bt197.1.toList = bt200.1.toList then (if bt197.2.1 = (wrap64 (bt200.2.1 + (mn (mx a1 0) (a0.size : Int)))) then (lightshiplaw16_ParsePlaces.j0 k a0 (mn (mx a1 0) (a0.size : Int)) bt193.1 bt193.2 (bt197.2.2 != bt200.2.2)) else (lightshiplaw16_ParsePlaces.j0 k a0 (mn (mx a1 0) (a0.size : Int)) bt193.1 bt193.2 true)) else (lightshiplaw16_ParsePlaces.j0 k a0 (mn (mx a1 0) (a0.size : Int)) bt193.1 bt193.2 true)) else (lightshiplaw16_ParsePlaces.j0 k a0 (mn (mx a1 0) (a0.size : Int)) bt193.1 bt193.2 true)) else (lightshiplaw16_ParsePlaces.j0 k a0 (mn (mx a1 0) (a0.size : Int)) bt193.1 bt193.2 true))))) else (none)) else (none)))
theorem lightshiplaw16_ParsePlaces.mono_l : ∀ k, (∀ y0 y1 y2 y3 y4, LeO (lightshiplaw16_ParsePlaces.j0 k y0 y1 y2 y3 y4) (lightshiplaw16_ParsePlaces.j0 (k + 1) y0 y1 y2 y3 y4))
  | 0 => fun _ _ _ _ _ r h => by simp [lightshiplaw16_ParsePlaces.j0] at h
  | k + 1 => by
    have ih0 := lightshiplaw16_ParsePlaces.mono_l k
    · intro y0 y1 y2 y3 y4
      unfold lightshiplaw16_ParsePlaces.j0
      repeat' first
      | (with_reducible exact ih0 _ _ _ _ _)
      | (with_reducible exact LeO.refl _)
      | (with_reducible exact LeO.none _)
      | (with_reducible refine LeO.ite ?_ ?_)
      | (with_reducible refine LeO.bind ?_ (fun _ => ?_))
      | exact ih0 _ _ _ _ _
      | exact LeO.none _
      | refine LeO.ite ?_ ?_
      | refine LeO.bind ?_ (fun _ => ?_)
theorem lightshiplaw16_ParsePlaces.mono : ∀ a0 a1 a2 k, LeO (lightshiplaw16_ParsePlaces.f k a0 a1 a2) (lightshiplaw16_ParsePlaces.f (k + 1) a0 a1 a2) := by
  intro a0 a1 a2 k
  have ih0 := lightshiplaw16_ParsePlaces.mono_l k
  unfold lightshiplaw16_ParsePlaces.f
  repeat' first
      | (with_reducible exact ih0 _ _ _ _ _)
      | (with_reducible exact LeO.refl _)
      | (with_reducible exact LeO.none _)
      | (with_reducible refine LeO.ite ?_ ?_)
      | (with_reducible refine LeO.bind ?_ (fun _ => ?_))
      | exact ih0 _ _ _ _ _
      | exact LeO.none _
      | refine LeO.ite ?_ ?_
      | refine LeO.bind ?_ (fun _ => ?_)
set_option maxHeartbeats 8000000 in
set_option maxRecDepth 100000 in
theorem lightshiplaw16_ParsePlaces.calls (k : Nat) (a0 : ByteArray) (a1 : Int) (a2 : Int) (r : Bool) (w : World) (h : lightshiplaw16_ParsePlaces.f k a0 a1 a2 = some r) :
    Calls Try.prog 6 #[.string a0, .int .i64 a1, .int .u8 a2] w fun e w' => e = .returned (.bool r) ∧ Below w.heap.size w w' := by
  have HB := Aside0.mk (Below.refl w.heap.size w)
  have H : (if (a0.size : Int) > 300 then ((lightshiplaw16_awake.f).bind fun t192 => (some t192)) else ((parse_Next.f a0 a1).bind fun bt193 => (if 0 ≤ (mn (mx a1 0) (a0.size : Int)) then (if (mn (mx a1 0) (a0.size : Int)) ≤ (a0.size : Int) then ((parse_Next.f (a0.extract ((mn (mx a1 0) (a0.size : Int)) : Int).toNat a0.size) 0).bind fun bt195 => ((parse_Until.f a0 a1 a2).bind fun bt197 => ((parse_Until.f (a0.extract ((mn (mx a1 0) (a0.size : Int)) : Int).toNat a0.size) 0 a2).bind fun bt200 => (if bt193.1.toList = bt195.1.toList then (if bt193.2 = (wrap64 (bt195.2 + (mn (mx a1 0) (a0.size : Int)))) then (if bt197.1.toList = bt200.1.toList then (if bt197.2.1 = (wrap64 (bt200.2.1 + (mn (mx a1 0) (a0.size : Int)))) then (lightshiplaw16_ParsePlaces.j0 k a0 (mn (mx a1 0) (a0.size : Int)) bt193.1 bt193.2 (bt197.2.2 != bt200.2.2)) else (lightshiplaw16_ParsePlaces.j0 k a0 (mn (mx a1 0) (a0.size : Int)) bt193.1 bt193.2 true)) else (lightshiplaw16_ParsePlaces.j0 k a0 (mn (mx a1 0) (a0.size : Int)) bt193.1 bt193.2 true)) else (lightshiplaw16_ParsePlaces.j0 k a0 (mn (mx a1 0) (a0.size : Int)) bt193.1 bt193.2 true)) else (lightshiplaw16_ParsePlaces.j0 k a0 (mn (mx a1 0) (a0.size : Int)) bt193.1 bt193.2 true))))) else (none)) else (none)))) = some r := h
  clear h
  by_cases c4 : (a0.size : Int) > 300
  · rw [if_pos c4] at H
    have c4b0 : decide (300 < (a0.size : Int)) = true := decide_eq_true c4
    have c4b1 : decide (300 < a0.size) = true := decide_eq_true (by omega)
    clear c4
    replace H := Option.bind_eq_some_iff.mp H
    obtain ⟨t192, A50, H⟩ := H
    replace H : (some t192) = some r := H
    have A5 := Aside0.mk A50
    clear A50
    obtain rfl := Option.some.inj H
    go_enter Try.func6, Try.ntmps6
    go_wp2_with (first | ((with_reducible refine gate_callee (f := 7) rfl ?_); refine goesL_ (some 23) rfl rfl Try.func7 (by kernel_rfl) rfl #[] rfl (by (try simp only [List.map_toArray, List.map_cons, List.map_nil]); first | done | rfl | (simp only [List.length_drop, List.length_take]; rfl)) ?_; (with_reducible refine (lightshiplaw16_awake.calls  t192 _ A5.out).mono ?_); rintro e w6 ⟨rfl, hb⟩; refine ⟨_, rfl, ?_⟩; have n0_ := Aside0.mk (below_step (by repeat (first | (with_reducible first | exact HB.out | apply below_alloc | apply pw_below_drewN | apply below_drew1) | exact HB.out)) hb); clear HB; have HB := n0_; clear n0_; (try clear hb); (try clear hb2); (try clear hk); (try clear hi)))
    go_ret
    exact ⟨by first | rfl | (simp [errW_none, errW_some] <;> rfl) | (simp [*, errW_none, errW_some] <;> rfl), by repeat (first | (with_reducible first | exact HB.out | apply below_alloc | apply pw_below_drewN | apply below_drew1) | exact HB.out)⟩
  · rw [if_neg c4] at H
    have c4b0 : decide (300 < (a0.size : Int)) = false := decide_eq_false c4
    have c4b1 : decide (300 < a0.size) = false := decide_eq_false (by omega)
    clear c4
    obtain ⟨ji7, hji7⟩ : ∃ j_ : Int, (mx a1 0) = j_ := ⟨_, rfl⟩
    replace H : ((parse_Next.f a0 a1).bind fun bt193 => (if 0 ≤ (mn (ji7) (a0.size : Int)) then (if (mn (ji7) (a0.size : Int)) ≤ (a0.size : Int) then ((parse_Next.f (a0.extract ((mn (ji7) (a0.size : Int)) : Int).toNat a0.size) 0).bind fun bt195 => ((parse_Until.f a0 a1 a2).bind fun bt197 => ((parse_Until.f (a0.extract ((mn (ji7) (a0.size : Int)) : Int).toNat a0.size) 0 a2).bind fun bt200 => (if bt193.1.toList = bt195.1.toList then (if bt193.2 = (wrap64 (bt195.2 + (mn (ji7) (a0.size : Int)))) then (if bt197.1.toList = bt200.1.toList then (if bt197.2.1 = (wrap64 (bt200.2.1 + (mn (ji7) (a0.size : Int)))) then (lightshiplaw16_ParsePlaces.j0 k a0 (mn (ji7) (a0.size : Int)) bt193.1 bt193.2 (bt197.2.2 != bt200.2.2)) else (lightshiplaw16_ParsePlaces.j0 k a0 (mn (ji7) (a0.size : Int)) bt193.1 bt193.2 true)) else (lightshiplaw16_ParsePlaces.j0 k a0 (mn (ji7) (a0.size : Int)) bt193.1 bt193.2 true)) else (lightshiplaw16_ParsePlaces.j0 k a0 (mn (ji7) (a0.size : Int)) bt193.1 bt193.2 true)) else (lightshiplaw16_ParsePlaces.j0 k a0 (mn (ji7) (a0.size : Int)) bt193.1 bt193.2 true))))) else (none)) else (none))) = some r := by first | (rw [hji7] at H; exact H) | (simp only [hji7] at H ⊢; exact H)
    (try (have hji7l : 0 ≤ ji7 := by (rw [← hji7]; unfold mx; (repeat' split) <;> omega)))
    (try (have hji7m : 0 ≤ ji7 := by omega))
    have hji7_ : (if a1 < 0 then 0 else a1) = ji7 := hji7
    obtain ⟨ji8, hji8⟩ : ∃ j_ : Int, (mn (ji7) (a0.size : Int)) = j_ := ⟨_, rfl⟩
    replace H : ((parse_Next.f a0 a1).bind fun bt193 => (if 0 ≤ (ji8) then (if (ji8) ≤ (a0.size : Int) then ((parse_Next.f (a0.extract ((ji8) : Int).toNat a0.size) 0).bind fun bt195 => ((parse_Until.f a0 a1 a2).bind fun bt197 => ((parse_Until.f (a0.extract ((ji8) : Int).toNat a0.size) 0 a2).bind fun bt200 => (if bt193.1.toList = bt195.1.toList then (if bt193.2 = (wrap64 (bt195.2 + (ji8))) then (if bt197.1.toList = bt200.1.toList then (if bt197.2.1 = (wrap64 (bt200.2.1 + (ji8))) then (lightshiplaw16_ParsePlaces.j0 k a0 ji8 bt193.1 bt193.2 (bt197.2.2 != bt200.2.2)) else (lightshiplaw16_ParsePlaces.j0 k a0 ji8 bt193.1 bt193.2 true)) else (lightshiplaw16_ParsePlaces.j0 k a0 ji8 bt193.1 bt193.2 true)) else (lightshiplaw16_ParsePlaces.j0 k a0 ji8 bt193.1 bt193.2 true)) else (lightshiplaw16_ParsePlaces.j0 k a0 ji8 bt193.1 bt193.2 true))))) else (none)) else (none))) = some r := by first | (rw [hji8] at H; exact H) | (simp only [hji8] at H ⊢; exact H)
    have hji8_ : (if (a0.size : Int) < (ji7) then (a0.size : Int) else (ji7)) = ji8 := hji8
    replace H := Option.bind_eq_some_iff.mp H
    obtain ⟨⟨t193, t194⟩, A90, H⟩ := H
    replace H : (if 0 ≤ (ji8) then (if (ji8) ≤ (a0.size : Int) then ((parse_Next.f (a0.extract ((ji8) : Int).toNat a0.size) 0).bind fun bt195 => ((parse_Until.f a0 a1 a2).bind fun bt197 => ((parse_Until.f (a0.extract ((ji8) : Int).toNat a0.size) 0 a2).bind fun bt200 => (if t193.toList = bt195.1.toList then (if t194 = (wrap64 (bt195.2 + (ji8))) then (if bt197.1.toList = bt200.1.toList then (if bt197.2.1 = (wrap64 (bt200.2.1 + (ji8))) then (lightshiplaw16_ParsePlaces.j0 k a0 ji8 t193 t194 (bt197.2.2 != bt200.2.2)) else (lightshiplaw16_ParsePlaces.j0 k a0 ji8 t193 t194 true)) else (lightshiplaw16_ParsePlaces.j0 k a0 ji8 t193 t194 true)) else (lightshiplaw16_ParsePlaces.j0 k a0 ji8 t193 t194 true)) else (lightshiplaw16_ParsePlaces.j0 k a0 ji8 t193 t194 true))))) else (none)) else (none)) = some r := H
    have A9 := Aside0.mk A90
    clear A90
    by_cases c10 : 0 ≤ (ji8)
    · rw [if_pos c10] at H
      have c10b0 := eq_true c10
      have c10b1 : decide (0 ≤ (ji8)) = true := decide_eq_true c10
      clear c10
      by_cases c11 : (ji8) ≤ (a0.size : Int)
      · rw [if_pos c11] at H
        have c11b0 := eq_true c11
        have c11b1 : decide ((ji8) ≤ (a0.size : Int)) = true := decide_eq_true c11
        clear c11
        replace H := Option.bind_eq_some_iff.mp H
        obtain ⟨⟨t195, t196⟩, A120, H⟩ := H
        replace H : ((parse_Until.f a0 a1 a2).bind fun bt197 => ((parse_Until.f (a0.extract ((ji8) : Int).toNat a0.size) 0 a2).bind fun bt200 => (if t193.toList = t195.toList then (if t194 = (wrap64 (t196 + (ji8))) then (if bt197.1.toList = bt200.1.toList then (if bt197.2.1 = (wrap64 (bt200.2.1 + (ji8))) then (lightshiplaw16_ParsePlaces.j0 k a0 ji8 t193 t194 (bt197.2.2 != bt200.2.2)) else (lightshiplaw16_ParsePlaces.j0 k a0 ji8 t193 t194 true)) else (lightshiplaw16_ParsePlaces.j0 k a0 ji8 t193 t194 true)) else (lightshiplaw16_ParsePlaces.j0 k a0 ji8 t193 t194 true)) else (lightshiplaw16_ParsePlaces.j0 k a0 ji8 t193 t194 true)))) = some r := H
        have A12 := Aside0.mk A120
        clear A120
        replace H := Option.bind_eq_some_iff.mp H
        obtain ⟨⟨t197, t198, t199⟩, A130, H⟩ := H
        replace H : ((parse_Until.f (a0.extract ((ji8) : Int).toNat a0.size) 0 a2).bind fun bt200 => (if t193.toList = t195.toList then (if t194 = (wrap64 (t196 + (ji8))) then (if t197.toList = bt200.1.toList then (if t198 = (wrap64 (bt200.2.1 + (ji8))) then (lightshiplaw16_ParsePlaces.j0 k a0 ji8 t193 t194 (t199 != bt200.2.2)) else (lightshiplaw16_ParsePlaces.j0 k a0 ji8 t193 t194 true)) else (lightshiplaw16_ParsePlaces.j0 k a0 ji8 t193 t194 true)) else (lightshiplaw16_ParsePlaces.j0 k a0 ji8 t193 t194 true)) else (lightshiplaw16_ParsePlaces.j0 k a0 ji8 t193 t194 true))) = some r := H
        have A13 := Aside0.mk A130
        clear A130
        have c14b0 := eq_true (of_decide_eq_true (by first | (with_reducible assumption) | assumption) : 0 ≤ (ji8))
        have c15b0 := eq_true (of_decide_eq_true (by first | (with_reducible assumption) | assumption) : (ji8) ≤ (a0.size : Int))
        replace H := Option.bind_eq_some_iff.mp H
        obtain ⟨⟨t200, t201, t202⟩, A160, H⟩ := H
        replace H : (if t193.toList = t195.toList then (if t194 = (wrap64 (t196 + (ji8))) then (if t197.toList = t200.toList then (if t198 = (wrap64 (t201 + (ji8))) then (lightshiplaw16_ParsePlaces.j0 k a0 ji8 t193 t194 (t199 != t202)) else (lightshiplaw16_ParsePlaces.j0 k a0 ji8 t193 t194 true)) else (lightshiplaw16_ParsePlaces.j0 k a0 ji8 t193 t194 true)) else (lightshiplaw16_ParsePlaces.j0 k a0 ji8 t193 t194 true)) else (lightshiplaw16_ParsePlaces.j0 k a0 ji8 t193 t194 true)) = some r := H
        have A16 := Aside0.mk A160
        clear A160
        have HC17 := Aside0.mk H
        clear H
        go_enter Try.func6, Try.ntmps6
        go_upto_region 8 with (first | ((with_reducible refine gate_callee (f := 8) rfl ?_); refine goesL_ (some 32) rfl rfl Try.func8 (by kernel_rfl) rfl #[.string a0, .int .i64 a1] rfl (by (try simp only [List.map_toArray, List.map_cons, List.map_nil]); first | done | rfl | (simp only [List.length_drop, List.length_take]; rfl)) ?_; (with_reducible refine (parse_Next.calls a0 a1 t193 t194 _ A9.out).mono ?_); rintro e w18 ⟨rfl, hb⟩; refine ⟨_, rfl, ?_⟩; have n0_ := Aside0.mk (below_step (by repeat (first | (with_reducible first | exact HB.out | apply below_alloc | apply pw_below_drewN | apply below_drew1) | exact HB.out)) hb); clear HB; have HB := n0_; clear n0_; (try clear hb); (try clear hb2); (try clear hk); (try clear hi)) | ((with_reducible refine gate_callee (f := 8) rfl ?_); refine goesL_ (some 39) rfl rfl Try.func8 (by kernel_rfl) rfl #[.string (a0.extract ((ji8) : Int).toNat a0.size), .int .i64 0] rfl (by (try simp only [List.map_toArray, List.map_cons, List.map_nil]); first | done | (simp only [hji8]; rfl) | rfl | (simp only [List.length_drop, List.length_take]; rfl)) ?_; (with_reducible refine (parse_Next.calls (a0.extract ((ji8) : Int).toNat a0.size) 0 t195 t196 _ A12.out).mono ?_); rintro e w19 ⟨rfl, hb⟩; refine ⟨_, rfl, ?_⟩; have n0_ := Aside0.mk (below_step (by repeat (first | (with_reducible first | exact HB.out | apply below_alloc | apply pw_below_drewN | apply below_drew1) | exact HB.out)) hb); clear HB; have HB := n0_; clear n0_; (try clear hb); (try clear hb2); (try clear hk); (try clear hi)) | ((with_reducible refine gate_callee (f := 10) rfl ?_); refine goesL_ (some 46) rfl rfl Try.func10 (by kernel_rfl) rfl #[.string a0, .int .i64 a1, .int .u8 a2] rfl (by (try simp only [List.map_toArray, List.map_cons, List.map_nil]); first | done | rfl | (simp only [List.length_drop, List.length_take]; rfl)) ?_; (with_reducible refine (parse_Until.calls a0 a1 a2 t197 t198 t199 _ A13.out).mono ?_); rintro e w20 ⟨rfl, hb⟩; refine ⟨_, rfl, ?_⟩; have n0_ := Aside0.mk (below_step (by repeat (first | (with_reducible first | exact HB.out | apply below_alloc | apply pw_below_drewN | apply below_drew1) | exact HB.out)) hb); clear HB; have HB := n0_; clear n0_; (try clear hb); (try clear hb2); (try clear hk); (try clear hi)) | ((with_reducible refine gate_callee (f := 10) rfl ?_); refine goesL_ (some 55) rfl rfl Try.func10 (by kernel_rfl) rfl #[.string (a0.extract ((ji8) : Int).toNat a0.size), .int .i64 0, .int .u8 a2] rfl (by (try simp only [List.map_toArray, List.map_cons, List.map_nil]); first | done | (simp only [hji8]; rfl) | rfl | (simp only [List.length_drop, List.length_take]; rfl)) ?_; (with_reducible refine (parse_Until.calls (a0.extract ((ji8) : Int).toNat a0.size) 0 a2 t200 t201 t202 _ A16.out).mono ?_); rintro e w21 ⟨rfl, hb⟩; refine ⟨_, rfl, ?_⟩; have n0_ := Aside0.mk (below_step (by repeat (first | (with_reducible first | exact HB.out | apply below_alloc | apply pw_below_drewN | apply below_drew1) | exact HB.out)) hb); clear HB; have HB := n0_; clear n0_; (try clear hb); (try clear hb2); (try clear hk); (try clear hi)))
        (try simp only [Act.put, List.setIfInBounds_toArray, List.set_cons_zero, List.set_cons_succ])
        go_cut [85] (fun v85 wc => ∃ (kq : Nat) (x85_16 : Bool), v85 = .bool x85_16 ∧ Aside0 (lightshiplaw16_ParsePlaces.j0 kq a0 ji8 t193 t194 x85_16 = some r) ∧ Aside0 (kq ≤ k) ∧ Aside0 (Below w.heap.size w wc))
        case first =>
          have H := HC17.out
          clear HC17
          by_cases c22 : t193.toList = t195.toList
          · rw [if_pos c22] at H
            have c22b0 : (t193.toList == t195.toList) = true := beq_iff_eq.mpr c22
            have c22b1 : (t193.toList != t195.toList) = false := bne_eq_false_iff_eq.mpr c22
            clear c22
            (first | rw [c22b0] | (simp only [i64_w, i32_w]; rw [c22b0]) | skip)
            by_cases c23 : t194 = (wrap64 (t196 + (ji8)))
            · rw [if_pos c23] at H
              have c23b0 : (t194 == (wrap64 (t196 + (ji8)))) = true := beq_iff_eq.mpr c23
              have c23b1 : (t194 != (wrap64 (t196 + (ji8)))) = false := bne_eq_false_iff_eq.mpr c23
              clear c23
              by_cases c24 : t197.toList = t200.toList
              · rw [if_pos c24] at H
                have c24b0 : (t197.toList == t200.toList) = true := beq_iff_eq.mpr c24
                have c24b1 : (t197.toList != t200.toList) = false := bne_eq_false_iff_eq.mpr c24
                clear c24
                by_cases c25 : t198 = (wrap64 (t201 + (ji8)))
                · rw [if_pos c25] at H
                  have c25b0 : (t198 == (wrap64 (t201 + (ji8)))) = true := beq_iff_eq.mpr c25
                  have c25b1 : (t198 != (wrap64 (t201 + (ji8)))) = false := bne_eq_false_iff_eq.mpr c25
                  clear c25
                  have H' := Aside0.mk H
                  clear H
                  go_wp2
                  go_meet
                  case rel => exact ⟨_, ((t199 != t202)), (by first | rfl | (simp; done) | (simp [*]; done)), H', ⟨by first | omega | exact Nat.le_refl _⟩, ⟨by repeat (first | (with_reducible first | exact HB.out | apply below_alloc | apply pw_below_drewN | apply below_drew1) | exact HB.out)⟩⟩
                · rw [if_neg c25] at H
                  have c25b0 : (t198 == (wrap64 (t201 + (ji8)))) = false := beq_eq_false_iff_ne.mpr c25
                  have c25b1 : (t198 != (wrap64 (t201 + (ji8)))) = true := bne_iff_ne.mpr c25
                  have H' := Aside0.mk H
                  clear H
                  go_wp2
                  go_meet
                  case rel => exact ⟨_, (true), (by first | rfl | (simp; done) | (simp [*]; done)), H', ⟨by first | omega | exact Nat.le_refl _⟩, ⟨by repeat (first | (with_reducible first | exact HB.out | apply below_alloc | apply pw_below_drewN | apply below_drew1) | exact HB.out)⟩⟩
              · rw [if_neg c24] at H
                have c24b0 : (t197.toList == t200.toList) = false := beq_eq_false_iff_ne.mpr c24
                have c24b1 : (t197.toList != t200.toList) = true := bne_iff_ne.mpr c24
                have H' := Aside0.mk H
                clear H
                go_wp2
                go_meet
                case rel => exact ⟨_, (true), (by first | rfl | (simp; done) | (simp [*]; done)), H', ⟨by first | omega | exact Nat.le_refl _⟩, ⟨by repeat (first | (with_reducible first | exact HB.out | apply below_alloc | apply pw_below_drewN | apply below_drew1) | exact HB.out)⟩⟩
            · rw [if_neg c23] at H
              have c23b0 : (t194 == (wrap64 (t196 + (ji8)))) = false := beq_eq_false_iff_ne.mpr c23
              have c23b1 : (t194 != (wrap64 (t196 + (ji8)))) = true := bne_iff_ne.mpr c23
              have H' := Aside0.mk H
              clear H
              go_wp2
              go_meet
              case rel => exact ⟨_, (true), (by first | rfl | (simp; done) | (simp [*]; done)), H', ⟨by first | omega | exact Nat.le_refl _⟩, ⟨by repeat (first | (with_reducible first | exact HB.out | apply below_alloc | apply pw_below_drewN | apply below_drew1) | exact HB.out)⟩⟩
          · rw [if_neg c22] at H
            have c22b0 : (t193.toList == t195.toList) = false := beq_eq_false_iff_ne.mpr c22
            have c22b1 : (t193.toList != t195.toList) = true := bne_iff_ne.mpr c22
            (first | rw [c22b0] | (simp only [i64_w, i32_w]; rw [c22b0]) | skip)
            have H' := Aside0.mk H
            clear H
            go_wp2
            go_meet
            case rel => exact ⟨_, (true), (by first | rfl | (simp; done) | (simp [*]; done)), H', ⟨by first | omega | exact Nat.le_refl _⟩, ⟨by repeat (first | (with_reducible first | exact HB.out | apply below_alloc | apply pw_below_drewN | apply below_drew1) | exact HB.out)⟩⟩
        case rest =>
          clear HC17
          try clear c1
          try clear c2
          try clear p2
          try clear c4
          try clear c4b0
          try clear c4b1
          try clear c6
          try clear p6
          try clear c7
          try clear c8
          try clear c10
          try clear c10b0
          try clear c10b1
          try clear c11
          try clear c11b0
          try clear c11b1
          try clear c14
          try clear c14b0
          try clear c15
          try clear c15b0
          try clear c22
          try clear c22b0
          try clear c22b1
          try clear c23
          try clear c23b0
          try clear c23b1
          try clear c24
          try clear c24b0
          try clear c24b1
          try clear c25
          try clear c25b0
          try clear c25b1
          obtain ⟨kq, x85_16, rfl, HA, HJ16, HB⟩ := hcut
          cases kq with
          | zero => exact absurd HA.out (by simp [lightshiplaw16_ParsePlaces.j0])
          | succ kj16 =>
            have H := HA.out
            clear HA
            simp only [lightshiplaw16_ParsePlaces.j0] at H
            by_cases c26 : x85_16 = true
            · subst c26
              have H1 : (some false) = some r := by rw [if_pos rfl] at H; exact H
              clear H
              have H := H1
              clear H1
              obtain rfl := Option.some.inj H
              go_wp2
              go_ret
              exact ⟨by first | rfl | (simp [errW_none, errW_some] <;> rfl) | (simp only [← hji7, ← hji8]; first | rfl | (simp [errW_none, errW_some] <;> rfl)) | (simp [*, errW_none, errW_some] <;> rfl), by repeat (first | (with_reducible first | exact HB.out | apply below_alloc | apply pw_below_drewN | apply below_drew1) | exact HB.out)⟩
            · replace c26 := Bool.eq_false_iff.mpr c26
              subst c26
              have H1 : (if 2 + a0.size ≤ 9223372036854775807 then ((parse_Next.f ((⟨#[32, 9]⟩ : ByteArray) ++ a0) ji8).bind fun bt203 => (if ji8 = 0 then (if bt203.1.toList = t193.toList then (if bt203.2 = (wrap64 (t194 + 2)) then ((lightshiplaw16_awake.f).bind fun t205 => (some t205)) else (some false)) else (some false)) else (if bt203.2 ≥ 0 then (if bt203.2 ≤ (wrap64 ((a0.size : Int) + 2)) then ((lightshiplaw16_awake.f).bind fun t206 => (some t206)) else (some false)) else (some false)))) else (none)) = some r := by rw [if_neg (show ¬ (false = true) by decide)] at H; exact H
              clear H
              have H := H1
              clear H1
              by_cases c27 : 2 + a0.size ≤ 9223372036854775807
              · rw [if_pos c27] at H
                have c27b0 := eq_true c27
                have c27b1 : decide (2 + a0.size ≤ 9223372036854775807) = true := decide_eq_true c27
                try have c27b2 : (9223372036854775807 < 2 + a0.size) = False := eq_false (Nat.not_lt.2 c27)
                replace H := Option.bind_eq_some_iff.mp H
                obtain ⟨⟨t203, t204⟩, A280, H⟩ := H
                replace H : (if ji8 = 0 then (if t203.toList = t193.toList then (if t204 = (wrap64 (t194 + 2)) then ((lightshiplaw16_awake.f).bind fun t205 => (some t205)) else (some false)) else (some false)) else (if t204 ≥ 0 then (if t204 ≤ (wrap64 ((a0.size : Int) + 2)) then ((lightshiplaw16_awake.f).bind fun t206 => (some t206)) else (some false)) else (some false))) = some r := H
                have A28 := Aside0.mk A280
                clear A280
                by_cases c29 : ji8 = 0
                · rw [if_pos c29] at H
                  have c29b0 : (ji8 == 0) = true := beq_iff_eq.mpr c29
                  have c29b1 : (ji8 != 0) = false := bne_eq_false_iff_eq.mpr c29
                  clear c29
                  by_cases c30 : t203.toList = t193.toList
                  · rw [if_pos c30] at H
                    have c30b0 : (t203.toList == t193.toList) = true := beq_iff_eq.mpr c30
                    have c30b1 : (t203.toList != t193.toList) = false := bne_eq_false_iff_eq.mpr c30
                    clear c30
                    by_cases c31 : t204 = (wrap64 (t194 + 2))
                    · rw [if_pos c31] at H
                      have c31b0 : (t204 == (wrap64 (t194 + 2))) = true := beq_iff_eq.mpr c31
                      have c31b1 : (t204 != (wrap64 (t194 + 2))) = false := bne_eq_false_iff_eq.mpr c31
                      clear c31
                      replace H := Option.bind_eq_some_iff.mp H
                      obtain ⟨t205, A320, H⟩ := H
                      replace H : (some t205) = some r := H
                      have A32 := Aside0.mk A320
                      clear A320
                      obtain rfl := Option.some.inj H
                      go_wp2_with (first | ((with_reducible refine gate_callee (f := 8) rfl ?_); refine goesL_ (some 90) rfl rfl Try.func8 (by kernel_rfl) rfl #[.string ((⟨#[32, 9]⟩ : ByteArray) ++ a0), .int .i64 ji8] rfl (by (try simp only [List.map_toArray, List.map_cons, List.map_nil]); first | done | (simp only [hji8]; rfl) | rfl | (simp only [List.length_drop, List.length_take]; rfl)) ?_; (with_reducible refine (parse_Next.calls ((⟨#[32, 9]⟩ : ByteArray) ++ a0) ji8 t203 t204 _ A28.out).mono ?_); rintro e w33 ⟨rfl, hb⟩; refine ⟨_, rfl, ?_⟩; have n0_ := Aside0.mk (below_step (by repeat (first | (with_reducible first | exact HB.out | apply below_alloc | apply pw_below_drewN | apply below_drew1) | exact HB.out)) hb); clear HB; have HB := n0_; clear n0_; (try clear hb); (try clear hb2); (try clear hk); (try clear hi)) | (go_at_call 7; (with_reducible refine (lightshiplaw16_awake.calls  t205 _ A32.out).mono ?_); rintro e w34 ⟨rfl, hb⟩; have n0_ := Aside0.mk (below_step (by repeat (first | (with_reducible first | exact HB.out | apply below_alloc | apply pw_below_drewN | apply below_drew1) | exact HB.out)) hb); clear HB; have HB := n0_; clear n0_; (try clear hb); (try clear hb2); (try clear hk); (try clear hi)))
                      go_ret
                      exact ⟨by first | rfl | (simp [errW_none, errW_some] <;> rfl) | (simp only [← hji7, ← hji8]; first | rfl | (simp [errW_none, errW_some] <;> rfl)) | (simp [*, errW_none, errW_some] <;> rfl), by repeat (first | (with_reducible first | exact HB.out | apply below_alloc | apply pw_below_drewN | apply below_drew1) | exact HB.out)⟩
                    · rw [if_neg c31] at H
                      have c31b0 : (t204 == (wrap64 (t194 + 2))) = false := beq_eq_false_iff_ne.mpr c31
                      have c31b1 : (t204 != (wrap64 (t194 + 2))) = true := bne_iff_ne.mpr c31
                      obtain rfl := Option.some.inj H
                      go_wp2_with (first | ((with_reducible refine gate_callee (f := 8) rfl ?_); refine goesL_ (some 90) rfl rfl Try.func8 (by kernel_rfl) rfl #[.string ((⟨#[32, 9]⟩ : ByteArray) ++ a0), .int .i64 ji8] rfl (by (try simp only [List.map_toArray, List.map_cons, List.map_nil]); first | done | (simp only [hji8]; rfl) | rfl | (simp only [List.length_drop, List.length_take]; rfl)) ?_; (with_reducible refine (parse_Next.calls ((⟨#[32, 9]⟩ : ByteArray) ++ a0) ji8 t203 t204 _ A28.out).mono ?_); rintro e w35 ⟨rfl, hb⟩; refine ⟨_, rfl, ?_⟩; have n0_ := Aside0.mk (below_step (by repeat (first | (with_reducible first | exact HB.out | apply below_alloc | apply pw_below_drewN | apply below_drew1) | exact HB.out)) hb); clear HB; have HB := n0_; clear n0_; (try clear hb); (try clear hb2); (try clear hk); (try clear hi)))
                      go_ret
                      exact ⟨by first | rfl | (simp [errW_none, errW_some] <;> rfl) | (simp only [← hji7, ← hji8]; first | rfl | (simp [errW_none, errW_some] <;> rfl)) | (simp [*, errW_none, errW_some] <;> rfl), by repeat (first | (with_reducible first | exact HB.out | apply below_alloc | apply pw_below_drewN | apply below_drew1) | exact HB.out)⟩
                  · rw [if_neg c30] at H
                    have c30b0 : (t203.toList == t193.toList) = false := beq_eq_false_iff_ne.mpr c30
                    have c30b1 : (t203.toList != t193.toList) = true := bne_iff_ne.mpr c30
                    obtain rfl := Option.some.inj H
                    go_wp2_with (first | ((with_reducible refine gate_callee (f := 8) rfl ?_); refine goesL_ (some 90) rfl rfl Try.func8 (by kernel_rfl) rfl #[.string ((⟨#[32, 9]⟩ : ByteArray) ++ a0), .int .i64 ji8] rfl (by (try simp only [List.map_toArray, List.map_cons, List.map_nil]); first | done | (simp only [hji8]; rfl) | rfl | (simp only [List.length_drop, List.length_take]; rfl)) ?_; (with_reducible refine (parse_Next.calls ((⟨#[32, 9]⟩ : ByteArray) ++ a0) ji8 t203 t204 _ A28.out).mono ?_); rintro e w36 ⟨rfl, hb⟩; refine ⟨_, rfl, ?_⟩; have n0_ := Aside0.mk (below_step (by repeat (first | (with_reducible first | exact HB.out | apply below_alloc | apply pw_below_drewN | apply below_drew1) | exact HB.out)) hb); clear HB; have HB := n0_; clear n0_; (try clear hb); (try clear hb2); (try clear hk); (try clear hi)))
                    go_ret
                    exact ⟨by first | rfl | (simp [errW_none, errW_some] <;> rfl) | (simp only [← hji7, ← hji8]; first | rfl | (simp [errW_none, errW_some] <;> rfl)) | (simp [*, errW_none, errW_some] <;> rfl), by repeat (first | (with_reducible first | exact HB.out | apply below_alloc | apply pw_below_drewN | apply below_drew1) | exact HB.out)⟩
                · rw [if_neg c29] at H
                  have c29b0 : (ji8 == 0) = false := beq_eq_false_iff_ne.mpr c29
                  have c29b1 : (ji8 != 0) = true := bne_iff_ne.mpr c29
                  by_cases c37 : t204 ≥ 0
                  · rw [if_pos c37] at H
                    have c37b0 : decide (0 ≤ t204) = true := decide_eq_true c37
                    clear c37
                    by_cases c38 : t204 ≤ (wrap64 ((a0.size : Int) + 2))
                    · rw [if_pos c38] at H
                      have c38b0 : decide (t204 ≤ (wrap64 ((a0.size : Int) + 2))) = true := decide_eq_true c38
                      have c38b1 : decide (t204 ≤ (a0.size : Int) + 2) = true := by
                        have hw_ : wrap64 ((a0.size : Int) + 2) = (a0.size : Int) + 2 := by unfold wrap64; omega
                        rw [hw_] at c38; exact decide_eq_true c38
                      clear c38
                      replace H := Option.bind_eq_some_iff.mp H
                      obtain ⟨t206, A390, H⟩ := H
                      replace H : (some t206) = some r := H
                      have A39 := Aside0.mk A390
                      clear A390
                      obtain rfl := Option.some.inj H
                      go_wp2_with (first | ((with_reducible refine gate_callee (f := 8) rfl ?_); refine goesL_ (some 90) rfl rfl Try.func8 (by kernel_rfl) rfl #[.string ((⟨#[32, 9]⟩ : ByteArray) ++ a0), .int .i64 ji8] rfl (by (try simp only [List.map_toArray, List.map_cons, List.map_nil]); first | done | (simp only [hji8]; rfl) | rfl | (simp only [List.length_drop, List.length_take]; rfl)) ?_; (with_reducible refine (parse_Next.calls ((⟨#[32, 9]⟩ : ByteArray) ++ a0) ji8 t203 t204 _ A28.out).mono ?_); rintro e w40 ⟨rfl, hb⟩; refine ⟨_, rfl, ?_⟩; have n0_ := Aside0.mk (below_step (by repeat (first | (with_reducible first | exact HB.out | apply below_alloc | apply pw_below_drewN | apply below_drew1) | exact HB.out)) hb); clear HB; have HB := n0_; clear n0_; (try clear hb); (try clear hb2); (try clear hk); (try clear hi)) | (go_at_call 7; (with_reducible refine (lightshiplaw16_awake.calls  t206 _ A39.out).mono ?_); rintro e w41 ⟨rfl, hb⟩; have n0_ := Aside0.mk (below_step (by repeat (first | (with_reducible first | exact HB.out | apply below_alloc | apply pw_below_drewN | apply below_drew1) | exact HB.out)) hb); clear HB; have HB := n0_; clear n0_; (try clear hb); (try clear hb2); (try clear hk); (try clear hi)))
                      go_ret
                      exact ⟨by first | rfl | (simp [errW_none, errW_some] <;> rfl) | (simp only [← hji7, ← hji8]; first | rfl | (simp [errW_none, errW_some] <;> rfl)) | (simp [*, errW_none, errW_some] <;> rfl), by repeat (first | (with_reducible first | exact HB.out | apply below_alloc | apply pw_below_drewN | apply below_drew1) | exact HB.out)⟩
                    · rw [if_neg c38] at H
                      have c38b0 : decide (t204 ≤ (wrap64 ((a0.size : Int) + 2))) = false := decide_eq_false c38
                      have c38b1 : decide (t204 ≤ (a0.size : Int) + 2) = false := by
                        have hw_ : wrap64 ((a0.size : Int) + 2) = (a0.size : Int) + 2 := by unfold wrap64; omega
                        rw [hw_] at c38; exact decide_eq_false c38
                      clear c38
                      obtain rfl := Option.some.inj H
                      go_wp2_with (first | ((with_reducible refine gate_callee (f := 8) rfl ?_); refine goesL_ (some 90) rfl rfl Try.func8 (by kernel_rfl) rfl #[.string ((⟨#[32, 9]⟩ : ByteArray) ++ a0), .int .i64 ji8] rfl (by (try simp only [List.map_toArray, List.map_cons, List.map_nil]); first | done | (simp only [hji8]; rfl) | rfl | (simp only [List.length_drop, List.length_take]; rfl)) ?_; (with_reducible refine (parse_Next.calls ((⟨#[32, 9]⟩ : ByteArray) ++ a0) ji8 t203 t204 _ A28.out).mono ?_); rintro e w42 ⟨rfl, hb⟩; refine ⟨_, rfl, ?_⟩; have n0_ := Aside0.mk (below_step (by repeat (first | (with_reducible first | exact HB.out | apply below_alloc | apply pw_below_drewN | apply below_drew1) | exact HB.out)) hb); clear HB; have HB := n0_; clear n0_; (try clear hb); (try clear hb2); (try clear hk); (try clear hi)))
                      go_ret
                      exact ⟨by first | rfl | (simp [errW_none, errW_some] <;> rfl) | (simp only [← hji7, ← hji8]; first | rfl | (simp [errW_none, errW_some] <;> rfl)) | (simp [*, errW_none, errW_some] <;> rfl), by repeat (first | (with_reducible first | exact HB.out | apply below_alloc | apply pw_below_drewN | apply below_drew1) | exact HB.out)⟩
                  · rw [if_neg c37] at H
                    have c37b0 : decide (0 ≤ t204) = false := decide_eq_false c37
                    clear c37
                    obtain rfl := Option.some.inj H
                    go_wp2_with (first | ((with_reducible refine gate_callee (f := 8) rfl ?_); refine goesL_ (some 90) rfl rfl Try.func8 (by kernel_rfl) rfl #[.string ((⟨#[32, 9]⟩ : ByteArray) ++ a0), .int .i64 ji8] rfl (by (try simp only [List.map_toArray, List.map_cons, List.map_nil]); first | done | (simp only [hji8]; rfl) | rfl | (simp only [List.length_drop, List.length_take]; rfl)) ?_; (with_reducible refine (parse_Next.calls ((⟨#[32, 9]⟩ : ByteArray) ++ a0) ji8 t203 t204 _ A28.out).mono ?_); rintro e w43 ⟨rfl, hb⟩; refine ⟨_, rfl, ?_⟩; have n0_ := Aside0.mk (below_step (by repeat (first | (with_reducible first | exact HB.out | apply below_alloc | apply pw_below_drewN | apply below_drew1) | exact HB.out)) hb); clear HB; have HB := n0_; clear n0_; (try clear hb); (try clear hb2); (try clear hk); (try clear hi)))
                    go_ret
                    exact ⟨by first | rfl | (simp [errW_none, errW_some] <;> rfl) | (simp only [← hji7, ← hji8]; first | rfl | (simp [errW_none, errW_some] <;> rfl)) | (simp [*, errW_none, errW_some] <;> rfl), by repeat (first | (with_reducible first | exact HB.out | apply below_alloc | apply pw_below_drewN | apply below_drew1) | exact HB.out)⟩
              · rw [if_neg c27] at H
                exact absurd H (by simp)
      · rw [if_neg c11] at H
        exact absurd H (by simp)
    · rw [if_neg c10] at H
      exact absurd H (by simp)

/-- THE ONE PURE STATEMENT of lightshiplaw16_ParsePlaces: yours. -/
def lightshiplaw16_ParsePlaces.Pure : Prop := ∀ (a0 : ByteArray) (a1 : Int) (a2 : Int), a0.size ≤ 140737488351232 → (Lit.int .i64 a1).wf = true → (Lit.int .u8 a2).wf = true → ∃ k, lightshiplaw16_ParsePlaces.f k a0 a1 a2 = some true
theorem lightshiplaw16_ParsePlaces.walk (P : lightshiplaw16_ParsePlaces.Pure) (a0 : ByteArray) (a1 : Int) (a2 : Int) (w : World) (w0 : a0.size ≤ 140737488351232) (w1 : (Lit.int .i64 a1).wf = true) (w2 : (Lit.int .u8 a2).wf = true) :
    Calls Try.prog 6 #[.string a0, .int .i64 a1, .int .u8 a2] w fun e w' => e = .returned (.bool true) ∧ Below w.heap.size w w' := by
  obtain ⟨k, h⟩ := P a0 a1 a2 w0 w1 w2
  refine (lightshiplaw16_ParsePlaces.calls k a0 a1 a2 true w h).mono ?_
  rintro e w' ⟨rfl, hd⟩
  exact ⟨rfl, hd⟩

end Go.Proofs.Ytnlmndafmgkcfaa.Print
