/- MemBack. -/
import Derived.Test.YtpainiehceniiaaV
import Derived.Deep.CutBlock
import Derived.Deep.DeepCutAuto
namespace Go.Proofs.Ytpainiehceniiaa
open Go.RowKit Go.Shelf Go.Proofs.YtpainiehceniiaaW.PrintWords Go.Proofs.YtpainiehceniiaaW.PrintMore
set_option linter.unusedVariables false
attribute [local go_sem] min2_int min_two

def Bytes (l : List Int) : Prop := ∀ x ∈ l, 0 ≤ x ∧ x ≤ 255
theorem le4_bytes (x : Int) : Bytes (le4 x) := by
  intro y hy
  simp only [le4, List.mem_cons, List.not_mem_nil, or_false] at hy
  rcases hy with rfl | rfl | rfl | rfl <;> omega
theorem put_bytes {l ys : List Int} {off : Nat} (h : Bytes l) (h2 : Bytes ys) : Bytes (put l off ys) := by
  intro y hy
  unfold put at hy
  simp only [List.mem_append] at hy
  rcases hy with (h1 | h1) | h1
  · exact h _ (List.mem_of_mem_take h1)
  · exact h2 _ h1
  · exact h _ (List.mem_of_mem_drop h1)
theorem put_get (l ys : List Int) (off i : Nat) (h : off + ys.length ≤ l.length) : (put l off ys)[i]? = if i < off then l[i]? else if i < off + ys.length then ys[i - off]? else l[i]? := by
  unfold put
  have ht : (l.take off).length = off := by rw [List.length_take]; omega
  split
  · rw [List.append_assoc, List.getElem?_append_left (by omega), List.getElem?_take, if_pos (by assumption)]
  · split
    · rw [List.append_assoc, List.getElem?_append_right (by omega), List.getElem?_append_left (by omega), ht]
    · rw [List.getElem?_append_right (by rw [List.length_append]; omega), List.length_append, ht, List.getElem?_drop]
      congr 1
      omega

theorem put_word (rm win : List Int) (off : Nat) (x : Int) (h : off + 4 ≤ rm.length) (hx0 : 0 ≤ x) (hx1 : x ≤ 4294967295) : Mem.word ⟨put rm off (le4 x), win⟩ false off = x := by
  have hg : ∀ t, t < 4 → (put rm off (le4 x)).getD (off + t) 0 = (le4 x).getD t 0 := fun t ht => by
    have hl : (le4 x).length = 4 := rfl
    rw [List.getD_eq_getElem?_getD, List.getD_eq_getElem?_getD, put_get rm (le4 x) off (off + t) (by rw [hl]; exact h), if_neg (by omega), if_pos (by rw [hl]; omega), Nat.add_sub_cancel_left]
  have h0 := hg 0 (by decide)
  have h1 := hg 1 (by decide)
  have h2 := hg 2 (by decide)
  have h3 := hg 3 (by decide)
  rw [Nat.add_zero] at h0
  unfold Mem.word
  have hr : (Mem.row ⟨put rm off (le4 x), win⟩ false) = put rm off (le4 x) := rfl
  rw [hr, h0, h1, h2, h3]
  unfold le4
  simp only [List.getD_cons_zero, List.getD_cons_succ]
  exact word_le4 x hx0 hx1
/-- pairs of cells, as they lie in memory. -/
structure PairAt (w : World) (x : Addr) (a b : Int) : Prop where
  c0 : w.cell? x = some (.int .u32 a)
  c1 : w.cell? (x.add 1) = some (.int .u32 b)
  a0 : 0 ≤ a
  a1 : a ≤ 4294967295
  b0 : 0 ≤ b
  b1 : b ≤ 4294967295
theorem cell_not {w w' : World} {y : Addr} {u : Value} (h4 : w.cell? y = some u) (hc : Chg Not w w') : w'.cell? y = some u := by
  have hlt : y.block < w.heap.size := by
    rcases Nat.lt_or_ge y.block w.heap.size with h' | h'
    · exact h'
    · unfold World.cell? at h4; rw [Array.getElem?_eq_none h'] at h4; cases h4
  unfold World.cell? at h4 ⊢
  rwa [hc.block _ hlt fun h => h]
theorem PairAt.not {w w' : World} {x : Addr} {a b : Int} (h : PairAt w x a b) (hc : Chg Not w w') : PairAt w' x a b :=
  ⟨cell_not h.c0 hc, cell_not h.c1 hc, h.a0, h.a1, h.b0, h.b1⟩

set_option maxRecDepth 100000 in
set_option maxHeartbeats 4000000 in
theorem back_law (W : World) (a0 : Int) (X1 : Option Addr) (len1 cap1 : Nat) (l1 : List Int) (X2 : Option Addr) (len2 cap2 : Nat) (a3 x : Int) (h00 : 0 ≤ a0) (h01 : a0 ≤ 255)
    (hl1 : l1.length = len1) (hb1 : len1 ≤ 2 ^ 47) (hc1 : len1 ≤ cap1) (hs1 : Src W X1 l1) (hcn1 : X1 = none → cap1 = 0)
    (hc2 : len2 ≤ cap2) (hm2 : cap2 ≤ 9223372036854775807) (hps : ∀ i, i < len2 → ∃ y a b, X2 = some y ∧ PairAt W (y.add (i * 2)) a b)
    (h30 : 0 ≤ a3) (h31 : a3 ≤ 4294967295) (hx0 : 0 ≤ x) (hx1 : x ≤ 4294967295) :
    Calls Try.prog 5 #[.int .u8 a0, .slice X1 len1 cap1, .slice X2 len2 cap2, .int .u32 a3, .int .u32 x] W fun e W' => e = .returned (.bool true) ∧ Chg Not W W' := by
  have HS1 := hid hs1
  have HPS := hid hps
  clear hs1 hps
  obtain ⟨at', hat'⟩ : ∃ at' : Nat, Hid (a3 = (at' : Int)) := ⟨a3.toNat, by show _ = _; omega⟩
  have hat : Hid (at' < 4294967296) := by have := hat'.out; show _ < _; omega
  obtain ⟨R, hR⟩ : ∃ R : Nat, (R : Int) = 4 + 4 * (a0 % 64) := ⟨(4 + 4 * (a0 % 64)).toNat, by omega⟩
  have HR : Hid (4 + 4 * (a0 % 64) = (R : Int)) := hR.symm
  have r1 : 4 ≤ R := by omega
  have r2 : R ≤ 256 := by omega
  have r3 : R % 4 = 0 := by omega
  clear hR
  obtain ⟨k1, hk1⟩ : ∃ k1, k1 = min len1 300 := ⟨_, rfl⟩
  obtain ⟨k2, hk2⟩ : ∃ k2, k2 = min len2 30 := ⟨_, rfl⟩
  have m1 : (if 300 < (len1 : Int) then 300 else (len1 : Int)) = (k1 : Int) := by split <;> omega
  have m2 : (if 30 < (len2 : Int) then 30 else (len2 : Int)) = (k2 : Int) := by split <;> omega
  have q1 : (k1 : Int) ≤ cap1 := by omega
  have q2 : (k2 : Int) ≤ cap2 := by omega
  have q3 : k1 ≤ cap1 := by omega
  have q4 : k2 ≤ cap2 := by omega
  have e3 : k1 ≤ 300 := by omega
  have e4 : k2 ≤ 30 := by omega
  have e5 : k1 ≤ len1 := by omega
  have e6 : k2 ≤ len2 := by omega
  have hlk1 := hid (show (l1.take k1).length = k1 by rw [List.length_take]; omega)
  clear hk1 hk2
  go_enter Try.func5, Try.ntmps5
  go_wp2_with fail
  rw [HR.out]
  refine (new_yes W R X1 k1 cap1 (l1.take k1) r1 (by omega) r3 (by omega) hlk1.out (HS1.out.take k1) hcn1).mono ?_
  rintro e w2 ⟨p, g, cr, V, cv, rfl, h1, h2⟩
  have H : Hid (Mm W.heap.size w2 p g cr V cv ⟨List.replicate R 0, l1.take k1⟩) := h1
  have C := hid h2
  have HB0 : Hid (Bytes (List.replicate R 0)) := fun y hy => by rw [(List.mem_replicate.1 hy).2]; omega
  clear h1 h2
  go_wp2_with fail
  go_loopw [49] (fun v wr => ∃ (j : Nat) (rm : List Int), v = .int .i64 j ∧ j ≤ k2 ∧ rm.length = R ∧ Hid (Bytes rm) ∧ Hid (Mm W.heap.size wr p g cr V cv ⟨rm, l1.take k1⟩) ∧ Hid (Chg Not W wr)) (fun v _ => k2 - (intOf v).toNat)
  case atStart => exact ⟨0, _, rfl, by omega, List.length_replicate, HB0, H, C⟩
  case round =>
    clear H C HB0
    obtain ⟨j, rm, rfl, hj, hrm, HB, H, C⟩ := hrel
    by_cases hlt : j < k2
    · obtain ⟨y, pa, pb, rfl, HP'⟩ := HPS.out j (by omega)
      have HP := hid (HP'.not C.out)
      clear HP'
      have k0 := HP.out.c0
      have k1' : wr.cell? ⟨(y.add (j * 2)).block, (y.add (j * 2)).off + 1, none⟩ = _ := HP.out.c1
      go_wp2_with fail
      have H3 : Hid (Mm W.heap.size (wr.alloc (.cells #[.int .u32 pa, .int .u32 pb] 60)).drew p g cr V cv ⟨rm, l1.take k1⟩) := H.out.not ((Chg.refl _ _).alloc _).drew
      have C3 : Hid (Chg Not W (wr.alloc (.cells #[.int .u32 pa, .int .u32 pb] 60)).drew) := C.out.not ((Chg.refl _ _).alloc _).drew
      have f0 : (wr.alloc (.cells #[.int .u32 pa, .int .u32 pb] 60)).drew.cell? ⟨wr.heap.size, 0, none⟩ = some (.int .u32 pa) := cells_cell (heap_alloc_new wr _) rfl
      have f1 : (wr.alloc (.cells #[.int .u32 pa, .int .u32 pb] 60)).drew.cell? ⟨wr.heap.size, 1, none⟩ = some (.int .u32 pb) := cells_cell (heap_alloc_new wr _) rfl
      generalize wr.alloc (.cells #[.int .u32 pa, .int .u32 pb] 60) = w3 at *
      generalize wr.heap.size = q at *
      clear k0 k1'
      have hwR : IntKind.u32.wrap (R : Int) = (R : Int) := by rw [IntKind.wrap_u32]; omega
      have hR0 : ((R : Int) == 0) = false := beq_eq_false_iff_ne.mpr (by omega)
      have hR1 : ¬ (R : Int) = 0 := by omega
      have hR2 : (0 : Int) < R := by omega
      have hR3 : ¬ R = 0 := by omega
      have hR4 : (R == 0) = false := beq_eq_false_iff_ne.mpr hR3
      have hpa := HP.out.a0
      go_still_tail 11, (by kernel_rfl)
      change wpList _ _ _ _ _ w3.drew
      generalize w3.drew = w4 at *
      go_wp2_with fail
      obtain ⟨off, hoff, ho1, ho2⟩ : ∃ off : Nat, ((1048576 + (pa % (R : Int)).tdiv 4 % 4294967296 * 4 % 4294967296) % 4294967296 = ((1048576 + off : Nat) : Int)) ∧ off + 4 ≤ R ∧ off % 4 = 0 := by
        have o0 := Int.emod_nonneg pa (show (R : Int) ≠ 0 by omega)
        have o1 := Int.emod_lt_of_pos pa hR2
        rw [Int.tdiv_eq_ediv_of_nonneg o0]
        exact ⟨((pa % (R : Int)) / 4 * 4).toNat, by omega, by omega, by omega⟩
      have HOF := hid hoff
      clear hoff
      rw [HOF.out]
      have hb0 := HP.out.b0
      have hb1 := HP.out.b1
      refine (store_yes H3.out (1048576 + off) off pb hb0 hb1 (by omega) (by omega) (lies_ram rfl (by show (l1.take k1).length ≤ _; rw [hlk1.out]; omega) (by show off + 4 ≤ rm.length; omega))).mono ?_
      rintro e w5 ⟨rfl, h1, h2⟩
      have H4 : Hid (Mm W.heap.size w5 p g cr V cv ⟨put rm off (le4 pb), l1.take k1⟩) := h1
      have C4 : Hid (Chg Not W w5) := C3.out.ram H3.out h2
      have hl3 : (put rm off (le4 pb)).length = R := by rw [put_length _ _ _ (by show off + 4 ≤ rm.length; omega)]; exact hrm
      have HB4 : Hid (Bytes (put rm off (le4 pb))) := put_bytes HB.out (le4_bytes pb)
      clear h1 h2 hwR hR0 hR1 hR2 hR3 hR4 H C H3 C3 HB
      go_wp2
      go_roundw
      case rel => exact ⟨j + 1, _, by go_num, by omega, hl3, HB4, H4, C4⟩
      case measure => simp [intOf]; omega
    · clear q2 q4 m2 e6
      have HRm := hid hrm
      clear m1 q1 q3 e5 hrm
      have g1 : (k2 : Int) ≤ j := by omega
      obtain ⟨st1, hst1⟩ : ∃ s, strOfNums rm = s := ⟨_, rfl⟩
      have hst1 := hid hst1
      go_wp2_with fail
      have HH := H
      refine (ram_is H.out R HRm.out).mono ?_
      rintro e w5 ⟨AW, cW, rfl, h1, h2⟩
      have H : Hid (Mm W.heap.size w5 p g cr V cv ⟨rm, l1.take k1⟩) := H.out.not h2
      have C := hid (C.out.not h2)
      have SW : Hid (Src w5 AW rm) := Src.own h1
      have hcW : R ≤ cW := (own_cap h1).1
      have HG : Hid (∀ k, (Value.slice AW R cW).ownBlock = some k → k ≠ g) := fun k hk he => by have := (row_lt HH.out.ram (k := g) rfl).2; have := (row_lt h1 hk).1; omega
      clear h1 h2
      obtain ⟨o1, HL'⟩ := lies_any ⟨rm, l1.take k1⟩ at' 4
      have HL := hid HL'
      clear HL'
      by_cases hok : at' % 4 = 0 ∧ ∃ off, o1 = some (false, off)
      · obtain ⟨h4, off, rfl⟩ := hok
        obtain ⟨hat2, hoff⟩ : at' = 1048576 + off ∧ off + 4 ≤ R := by
          rcases lies_inv HL.out with ⟨h0, _⟩ | ⟨_, ho, h1, h2⟩
          · cases h0
          · have e1 := h2.1
            have e2 : at' - 1048576 + 4 ≤ rm.length := h2.2
            rw [HRm.out] at e2
            omega
        have hl2 : (put rm off (le4 x)).length = R := by rw [put_length _ _ _ (by show off + 4 ≤ rm.length; rw [HRm.out]; exact hoff)]; exact HRm.out
        have HRm2 := hid hl2
        clear hl2
        have HB2 : Hid (Bytes (put rm off (le4 x))) := put_bytes HB.out (le4_bytes x)
        have HL2 : Hid (Lies ⟨put rm off (le4 x), l1.take k1⟩ at' 4 (some (false, off))) := lies_ram hat2 (by show (l1.take k1).length ≤ _; rw [hlk1.out]; omega) (by show off + 4 ≤ (put rm off (le4 x)).length; rw [HRm2.out]; exact hoff)
        have HA2 := hid hat2
        clear hat2
        go_wp2_with fail
        have HS := hid (store_yes H.out at' off x hx0 hx1 hat.out h4 HL.out)
        rw [← hat'.out] at HS
        refine HS.out.mono ?_
        rintro e w6 ⟨rfl, h1, h2⟩
        have C := hid (C.out.ram H.out h2)
        have H : Hid (Mm W.heap.size w6 p g cr V cv ⟨put rm off (le4 x), l1.take k1⟩) := h1
        have SW : Hid (Src w6 AW rm) := SW.out.chg h2 (fun ad ha he => HG.out ad.block (by rw [ha]; rfl) he)
        clear h1 h2 HG HL
        go_wp2_with fail
        refine (ram_is H.out R HRm2.out).mono ?_
        rintro e w7 ⟨AX, cX, rfl, h1, h2⟩
        have C := hid (C.out.not h2)
        have H := hid (H.out.not h2)
        have SW := hid (SW.out.not h2)
        have SX : Hid (Src w7 AX (put rm off (le4 x))) := Src.own h1
        have hcX : R ≤ cX := (own_cap h1).1
        clear h1 h2
        go_wp2_with fail
        have HS := hid (load_is H.out at' hat.out h4 false off x HL2.out HB2.out (put_word rm (l1.take k1) off x (by rw [HRm.out]; exact hoff) hx0 hx1))
        rw [← hat'.out] at HS
        refine HS.out.mono ?_
        rintro e w8 ⟨rfl, h2⟩
        have C := hid (C.out.not h2)
        have H := hid (H.out.not h2)
        have SW := hid (SW.out.not h2)
        have SX := hid (SX.out.not h2)
        clear h2
        clear HL2
        obtain ⟨R4, hR4⟩ : ∃ R4 : Nat, Hid (R = R4 + 4) := ⟨R - 4, by show _ = _; omega⟩
        have u1 : a3 % 4 = 0 := by have := hat'.out; omega
        have u2 : ¬ a3 < 1048576 := by have := HA2.out; have := hat'.out; omega
        have u3 : (a3 - 1048576) % 4294967296 = (off : Int) := by have := HA2.out; have := hat'.out; omega
        have u4 : IntKind.u32.wrap (R : Int) = (R : Int) := by rw [IntKind.wrap_u32]; omega
        have u5 : ((R : Int) - 4) % 4294967296 = (R4 : Int) := by have := hR4.out; omega
        have u6 : ¬ (R4 : Int) < (off : Int) := by have := hR4.out; omega
        have u7 : ¬ R4 < off := by have := hR4.out; omega
        go_wp2_with fail
        go_loopw [116] (fun v wr => ∃ i : Nat, v = .int .i64 i ∧ i ≤ R ∧ w8 = wr) (fun v _ => R - (intOf v).toNat)
        case atStart => exact ⟨0, rfl, by omega, rfl⟩
        case round =>
          obtain ⟨i, rfl, hi, rfl⟩ := hrel
          clear u1 u2 u4 u5 u6 u7
          by_cases hlt2 : i < R
          · have hl4 : (le4 x).length = 4 := rfl
            have hpg := put_get rm (le4 x) off i (by rw [hl4, HRm.out]; exact hoff)
            rw [hl4] at hpg
            obtain ⟨y0, hy0⟩ : ∃ y0, rm[i]? = some y0 := ⟨rm[i]'(by rw [HRm.out]; exact hlt2), by simp⟩
            obtain ⟨y1, hy1⟩ : ∃ y1, (put rm off (le4 x))[i]? = some y1 := ⟨(put rm off (le4 x))[i]'(by rw [HRm2.out]; exact hlt2), by simp⟩
            obtain ⟨adW, rfl, c0⟩ := SW.out.cell hy0
            obtain ⟨adX, rfl, c1⟩ := SX.out.cell hy1
            have hi2 : Hid (1048576 + (i : Int) = ((1048576 + i : Nat) : Int)) := by show _ = _; omega
            have wi : IntKind.u32.wrap (i : Int) = (i : Int) := by rw [IntKind.wrap_u32]; omega
            have hBy := hid (byte_yes H.out (1048576 + i) (by omega) false i (lies_ram rfl (by show (l1.take k1).length ≤ _; rw [hlk1.out]; omega) (by show i + 1 ≤ (put rm off (le4 x)).length; rw [HRm2.out]; exact hlt2)) y1 hy1)
            rw [← hi2.out] at hBy
            have wk := IntWalk.i64_in ((i : Int) - off) (by omega)
            have g1 : (i : Int) < R := by omega
            have g2 : i < R := hlt2
            have g3 : (i : Int) < cX := by omega
            have g4 : (i : Int) < cW := by omega
            by_cases hA : i < off ∨ off + 4 ≤ i
            · have hy : y1 = y0 := by
                have : (put rm off (le4 x))[i]? = rm[i]? := by rw [hpg]; split; · rfl
                                                               · rw [if_neg (by omega)]
                rw [this, hy0] at hy1
                injection hy1 with e; exact e.symm
              subst hy
              clear hpg hy0 hy1
              obtain ⟨kk, hkk⟩ : ∃ kk : Int, (i : Int) - off = kk := ⟨_, rfl⟩
              have hk2 : kk < 0 ∨ 4 ≤ kk := by omega
              rw [hkk] at wk
              rcases hk2 with hk2 | hk2
              · go_wp2_with fail
                refine hBy.out.mono ?_
                rintro e w' ⟨rfl, rfl⟩
                go_wp2_with fail
                exact ⟨⟨i + 1, by go_num, by omega, trivial⟩, by simp [intOf]; omega⟩
              · have hk3 : 0 ≤ kk := by omega
                have hk4 : ¬ kk < 4 := by omega
                go_wp2_with fail
                refine hBy.out.mono ?_
                rintro e w' ⟨rfl, rfl⟩
                go_wp2_with fail
                exact ⟨⟨i + 1, by go_num, by omega, trivial⟩, by simp [intOf]; omega⟩
            · obtain ⟨tt, htt⟩ : ∃ tt, i = off + tt := ⟨i - off, by omega⟩
              have ht4 : tt = 0 ∨ tt = 1 ∨ tt = 2 ∨ tt = 3 := by omega
              have hkk : (i : Int) - (a3 - 1048576) = (tt : Int) := by have := HA2.out; have := hat'.out; omega
              rw [if_neg (by omega), if_pos (by omega), show i - off = tt by omega, hy1] at hpg
              clear htt hy0 hA
              rcases ht4 with rfl | rfl | rfl | rfl
              · have hy : y1 = x % 256 := by simpa [le4] using hpg
                subst hy
                clear hpg hy1
                replace hkk : (i : Int) - (a3 - 1048576) = 0 := hkk
                clear wk u3
                go_wp2_with fail
                refine hBy.out.mono ?_
                rintro e w' ⟨rfl, rfl⟩
                go_wp2_with fail
                exact ⟨⟨i + 1, by go_num, by omega, trivial⟩, by simp [intOf]; omega⟩
              · have hy : y1 = x / 256 % 256 := by simpa [le4] using hpg
                subst hy
                clear hpg hy1
                replace hkk : (i : Int) - (a3 - 1048576) = 1 := hkk
                clear wk u3
                go_wp2_with fail
                refine hBy.out.mono ?_
                rintro e w' ⟨rfl, rfl⟩
                go_wp2_with fail
                exact ⟨⟨i + 1, by go_num, by omega, trivial⟩, by simp [intOf]; omega⟩
              · have hy : y1 = x / 65536 % 256 := by simpa [le4] using hpg
                subst hy
                clear hpg hy1
                replace hkk : (i : Int) - (a3 - 1048576) = 2 := hkk
                clear wk u3
                go_wp2_with fail
                refine hBy.out.mono ?_
                rintro e w' ⟨rfl, rfl⟩
                go_wp2_with fail
                exact ⟨⟨i + 1, by go_num, by omega, trivial⟩, by simp [intOf]; omega⟩
              · have hy : y1 = x / 16777216 % 256 := by simpa [le4] using hpg
                subst hy
                clear hpg hy1
                replace hkk : (i : Int) - (a3 - 1048576) = 3 := hkk
                clear wk u3
                go_wp2_with fail
                refine hBy.out.mono ?_
                rintro e w' ⟨rfl, rfl⟩
                go_wp2_with fail
                exact ⟨⟨i + 1, by go_num, by omega, trivial⟩, by simp [intOf]; omega⟩
          · have g1 : (R : Int) ≤ i := by omega
            go_wp2_with fail
            refine (awake_any _).mono ?_
            rintro e w12 ⟨rfl, h2⟩
            have C := hid (C.out.not h2)
            clear h2
            go_wp2
            go_ret
            exact ⟨rfl, C.out⟩
      · obtain ⟨r, hr, HS⟩ : ∃ r : Int, r ≠ 0 ∧ Hid (Calls Try.prog 11 #[ptr p, .int .u32 a3, .int .u32 x] w5 fun e W' => e = .returned (.int .i32 r) ∧ w5 = W') := by
          rw [hat'.out]
          by_cases h4 : at' % 4 = 0
          · rcases o1 with _ | ⟨wA, oA⟩
            · exact ⟨-9, by decide, store_out H.out at' x hat.out h4 HL.out⟩
            · cases wA
              · exact absurd ⟨h4, oA, rfl⟩ hok
              · exact ⟨-20, by decide, store_win H.out at' oA x hat.out h4 HL.out⟩
          · exact ⟨-23, by decide, store_off H.out at' x hat.out h4⟩
        have hr0 : (r == 0) = false := beq_eq_false_iff_ne.mpr hr
        clear hr hok HG
        go_wp2_with fail
        refine (HS.out).mono ?_
        rintro e w6 ⟨rfl, rfl⟩
        go_wp2_with fail
        refine (ram_is H.out R HRm.out).mono ?_
        rintro e w7 ⟨AX, cX, rfl, h1, h2⟩
        have C := hid (C.out.not h2)
        have SW2 : Hid (Src w7 AW rm) := SW.out.not h2
        have SX : Hid (Src w7 AX rm) := Src.own h1
        have v1 : (convert 22 9 (.slice AW R cW)).run Try.prog w7 = .ok (.string st1) w7 := str_src SW2.out R cW HRm.out (by omega) hst1.out
        have v2 : (convert 22 9 (.slice AX R cX)).run Try.prog w7 = .ok (.string st1) w7 := str_src SX.out R cX HRm.out (by omega) hst1.out
        clear h1 h2
        go_wp2_with fail
        refine (awake_any _).mono ?_
        rintro e w12 ⟨rfl, h2⟩
        have C := hid (C.out.not h2)
        clear h2
        go_wp2
        go_ret
        exact ⟨rfl, C.out⟩
end Go.Proofs.Ytpainiehceniiaa
