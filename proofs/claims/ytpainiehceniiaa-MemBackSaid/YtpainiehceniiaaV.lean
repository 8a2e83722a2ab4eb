/- MemMoves. -/
import Derived.Test.YtpainiehceniiaaU
import Derived.Deep.RegionWith
import Derived.Deep.DrawnRows
import Derived.StillTailTactics
namespace Go.Proofs.Ytpainiehceniiaa
open Go.RowKit Go.Shelf Go.Proofs.YtpainiehceniiaaW.PrintWords Go.Proofs.YtpainiehceniiaaW.PrintMore
set_option linter.unusedVariables false
attribute [local go_sem] min2_int min_two

theorem lies_ram {m : Mem} {a n off : Nat} (ha : a = 1048576 + off) (hw : m.win.length ≤ 65536) (h : off + n ≤ m.ram.length) : Lies m a n (some (false, off)) := by
  have h1 : ¬ fits 4096 a n m.win.length := fun hf => by have := hf.2; omega
  have h2 : fits 1048576 a n m.ram.length := ⟨by omega, by omega⟩
  have := Lies.ram h1 h2
  rwa [show a - 1048576 = off by omega] at this
theorem lies_win {m : Mem} {a n off : Nat} (ha : a = 4096 + off) (h : off + n ≤ m.win.length) : Lies m a n (some (true, off)) := by
  have h2 : fits 4096 a n m.win.length := ⟨by omega, by omega⟩
  have := Lies.win (m := m) h2
  rwa [show a - 4096 = off by omega] at this
theorem lies_none {m : Mem} {a n off : Nat} (ha : a = 1048576 + off) (hw : m.win.length ≤ 65536) (h : ¬ off + n ≤ m.ram.length) : Lies m a n none :=
  .none (fun hf => by have := hf.2; omega) (fun hf => by have := hf.2; omega)
theorem lies_none_win {m : Mem} {a n off : Nat} (ha : a = 4096 + off) (hw : off ≤ 65536) (h : ¬ off + n ≤ m.win.length) : Lies m a n none :=
  .none (fun hf => by have := hf.2; omega) (fun hf => by have := hf.1; omega)

theorem ram_is {B : Nat} {W : World} {p g cr : Nat} {V : Option Addr} {cv : Nat} {m : Mem} (h : Mm B W p g cr V cv m) (n : Nat) (hn : m.ram.length = n) :
    Calls Try.prog 10 #[ptr p] W fun e W' => ∃ A' c', e = .returned (.slice A' n c') ∧ W'.ownsRow W.heap.size 5 1 (.slice A' n c') n (m.ram.map (Value.int .u8)) ∧ Chg Not W W' := by subst hn; exact ram_any h
set_option maxRecDepth 100000 in
set_option maxHeartbeats 4000000 in
theorem moves_law (W : World) (a0 : Int) (X1 X2 : Option Addr) (len1 cap1 len2 cap2 : Nat) (l1 l2 : List Int) (a3 a4 a5 : Int) (a6 : Bool) (h00 : 0 ≤ a0) (h01 : a0 ≤ 255)
    (hl1 : l1.length = len1) (hb1 : len1 ≤ 2 ^ 47) (hc1 : len1 ≤ cap1) (hs1 : Src W X1 l1) (hl2 : l2.length = len2) (hb2 : len2 ≤ 2 ^ 47) (hc2 : len2 ≤ cap2) (hs2 : Src W X2 l2) (hcn1 : X1 = none → cap1 = 0)
    (h30 : 0 ≤ a3) (h31 : a3 ≤ 65535) (h40 : 0 ≤ a4) (h41 : a4 ≤ 65535) (h50 : 0 ≤ a5) (h51 : a5 ≤ 65535) :
    Calls Try.prog 6 #[.int .u8 a0, .slice X1 len1 cap1, .slice X2 len2 cap2, .int .u16 a3, .int .u16 a4, .int .u16 a5, .bool a6] W fun e W' => e = .returned (.bool true) ∧ Chg Not W W' := by
  have HS1 := hid hs1
  have HS2 := hid hs2
  clear hs1 hs2
  obtain ⟨R, hR⟩ : ∃ R : Nat, (R : Int) = 4 + 4 * (a0 % 64) := ⟨(4 + 4 * (a0 % 64)).toNat, by omega⟩
  have HR : Hid (4 + 4 * (a0 % 64) = (R : Int)) := hR.symm
  have r1 : 4 ≤ R := by omega
  have r2 : R ≤ 256 := by omega
  have r3 : R % 4 = 0 := by omega
  clear hR
  obtain ⟨k1, hk1⟩ : ∃ k1, k1 = min len1 300 := ⟨_, rfl⟩
  obtain ⟨k2, hk2⟩ : ∃ k2, k2 = min len2 R := ⟨_, rfl⟩
  have m1 : (if 300 < (len1 : Int) then 300 else (len1 : Int)) = (k1 : Int) := by split <;> omega
  have m2 : (if (R : Int) < (len2 : Int) then (R : Int) else (len2 : Int)) = (k2 : Int) := by split <;> omega
  have m3 : (if R < len2 then (R : Int) else (len2 : Int)) = (k2 : Int) := by split <;> omega
  have q1 : (k1 : Int) ≤ cap1 := by omega
  have q2 : (k2 : Int) ≤ cap2 := by omega
  have q3 : k1 ≤ cap1 := by omega
  have q4 : k2 ≤ cap2 := by omega
  have e3 : k1 ≤ 300 := by omega
  have e4 : k2 ≤ R := by omega
  have e5 : k1 ≤ len1 := by omega
  have e6 : k2 ≤ len2 := by omega
  have w1 : IntKind.i64.wrap (k1 : Int) = k1 := IntWalk.i64_in _ (by omega)
  have w2 : IntKind.i64.wrap (k2 : Int) = k2 := IntWalk.i64_in _ (by omega)
  have hlk1 := hid (show (l1.take k1).length = k1 by rw [List.length_take]; omega)
  clear hk1 hk2
  go_enter Try.func6, Try.ntmps6
  go_wp2_with fail
  rw [HR.out]
  refine (new_yes W R X1 k1 cap1 (l1.take k1) r1 (by omega) r3 (by omega) hlk1.out (HS1.out.take k1) hcn1).mono ?_
  rintro e w2 ⟨p, g, cr, V, cv, rfl, h1, h2⟩
  have H : Hid (Mm W.heap.size w2 p g cr V cv ⟨List.replicate R 0, l1.take k1⟩) := h1
  have C := hid h2
  clear h1 h2
  go_wp2_with fail
  go_loopw [18, 19, 58] (fun _ _ v wr => ∃ (j : Nat) (rm : List Int), v = .int .i64 j ∧ j ≤ k2 ∧ rm.length = R ∧ Hid (Mm W.heap.size wr p g cr V cv ⟨rm, l1.take k1⟩) ∧ Hid (Chg Not W wr)) (fun _ _ v _ => k2 - (intOf v).toNat)
  case atStart => exact ⟨0, _, rfl, by omega, List.length_replicate, H, C⟩
  case round =>
    clear H C
    obtain ⟨j, rm, rfl, hj, hrm, H, C⟩ := hrel
    by_cases hlt : j < k2
    · obtain ⟨x, hx⟩ : ∃ x, l2[j]? = some x := ⟨l2[j]'(by omega), by simp⟩
      obtain ⟨ad, rfl, k0⟩ := (HS2.out.not C.out).cell hx
      have hj2 : Hid (1048576 + (j : Int) = ((1048576 + j : Nat) : Int)) := by show _ = _; omega
      clear hx
      go_wp2_with fail
      rw [hj2.out]
      refine (setByte_yes H.out (1048576 + j) j x (by omega) (lies_ram rfl (by show (l1.take k1).length ≤ _; rw [hlk1.out]; omega) (by show j + 1 ≤ rm.length; omega))).mono ?_
      rintro e w3 ⟨rfl, h1, h2⟩
      have H2 : Hid (Mm W.heap.size w3 p g cr V cv ⟨put rm j [x], l1.take k1⟩) := h1
      have C2 : Hid (Chg Not W w3) := C.out.ram H.out h2
      have hl3 : (put rm j [x]).length = R := by rw [put_length _ _ _ (by show j + 1 ≤ rm.length; omega)]; exact hrm
      clear h1 h2
      go_wp2
      go_roundw
      case rel => exact ⟨j + 1, _, by go_num, by omega, hl3, H2, C2⟩
      case measure => simp [intOf]; omega
    · clear q2 q4 w2 m2 m3 e6
      have HRm := hid hrm
      clear m1 q1 q3 w1 e5
      have z0 : (0 : Int) < (R : Int) + 1 := by omega
      have z1 : (0 : Int) < (k1 : Int) + 1 := by omega
      have z2 := Int.emod_nonneg a3 (show (R : Int) + 1 ≠ 0 by omega)
      have z3 := Int.emod_lt_of_pos a3 z0
      have z4 := Int.emod_nonneg a4 (show (R : Int) + 1 ≠ 0 by omega)
      have z5 := Int.emod_lt_of_pos a4 z0
      have z6 := Int.emod_nonneg a3 (show (k1 : Int) + 1 ≠ 0 by omega)
      have z7 := Int.emod_lt_of_pos a3 z1
      obtain ⟨bb, hbb⟩ : ∃ bb : Nat, (bb : Int) = 1048576 + a4 % ((R : Int) + 1) := ⟨(1048576 + a4 % ((R : Int) + 1)).toNat, by omega⟩
      obtain ⟨nn, hnn⟩ : ∃ nn : Nat, (nn : Int) = a5 % 300 := ⟨(a5 % 300).toNat, by omega⟩
      have HBB : Hid (1048576 + a4 % ((R : Int) + 1) = (bb : Int)) := hbb.symm
      have HNN : Hid (a5 % 300 = (nn : Int)) := hnn.symm
      have b1 : bb ≤ 1048576 + R := by omega
      have b2 : 1048576 ≤ bb := by omega
      have b3 : nn < 300 := by omega
      clear hbb hnn
      go_upto_region 11 with fail
      go_cut [20, 21] (fun s20 s21 wx => s20 = .int .u32 (1048576 + a3 % ((R : Int) + 1)) ∧ s21 = .int .u32 bb ∧ Chg Not wr wx)
      case first =>
        go_region
        all_goals go_wp2_with fail
        all_goals go_meet
        all_goals exact ⟨rfl, by rw [HBB.out], (Chg.refl _ _).drew⟩
      case rest =>
        obtain ⟨rfl, rfl, hch⟩ := hcut
        have H : Hid (Mm W.heap.size wc p g cr V cv ⟨rm, l1.take k1⟩) := H.out.not hch
        have C : Hid (Chg Not W wc) := C.out.not hch
        clear hch
        go_upto_if 84 with fail
        go_cut [20] (fun s20 wx => ∃ aa offA : Nat, s20 = .int .u32 aa ∧ (aa = 4096 + offA ∧ offA ≤ k1 ∨ aa = 1048576 + offA ∧ offA ≤ R) ∧ wc = wx)
        case first =>
          cases a6
          · go_wp2_with fail
            go_meet
            exact ⟨(1048576 + a3 % ((R : Int) + 1)).toNat, (a3 % ((R : Int) + 1)).toNat, by rw [Int.toNat_of_nonneg (by omega)], .inr ⟨by omega, by omega⟩, rfl⟩
          · go_wp2_with fail
            go_meet
            exact ⟨(4096 + a3 % ((k1 : Int) + 1)).toNat, (a3 % ((k1 : Int) + 1)).toNat, by rw [Int.toNat_of_nonneg (by omega)], .inl ⟨by omega, by omega⟩, rfl⟩
        case rest =>
          obtain ⟨aa, offA, rfl, ha, rfl⟩ := hcut
          clear z0 z1 z2 z3 z4 z5 z6 z7
          have ha32 : aa < 4294967296 := by omega
          have hb32 : bb < 4294967296 := by omega
          have HL4 : Hid (Lies ⟨rm, l1.take k1⟩ 4096 k1 (some (true, 4096 - 4096))) := .win ⟨Nat.le_refl _, by show 4096 - 4096 + k1 ≤ (l1.take k1).length; rw [hlk1.out]; omega⟩
          have hcut : ∀ rm : List Int, Hid ((⟨rm, l1.take k1⟩ : Mem).cut true (4096 - 4096) k1 = l1.take k1) := fun rm => by
            show ((l1.take k1).drop 0).take k1 = l1.take k1
            rw [List.drop_zero, List.take_take, Nat.min_self]
          obtain ⟨st1, hst1⟩ : ∃ s, strOfNums (l1.take k1) = s := ⟨_, rfl⟩
          obtain ⟨st2, hst2⟩ : ∃ s, strOfNums rm = s := ⟨_, rfl⟩
          have hst1 := hid hst1
          have hst2 := hid hst2
          clear hrm
          go_wp2_with fail
          have HH := H
          refine (ram_is H.out R HRm.out).mono ?_
          rintro e w5 ⟨AW, cW, rfl, h1, h2⟩
          have H : Hid (Mm W.heap.size w5 p g cr V cv ⟨rm, l1.take k1⟩) := H.out.not h2
          have C := hid (C.out.not h2)
          have SW : Hid (Src w5 AW rm) := Src.own h1
          have hcW : R ≤ cW := (own_cap h1).1
          have HG : Hid (g < wc.heap.size ∧ wc.heap.size ≤ w5.heap.size) := And.intro (row_lt HH.out.ram (k := g) rfl).2 h2.size
          have HAW : Hid (∀ j, (Value.slice AW R cW).ownBlock = some j → wc.heap.size ≤ j) := fun j hj => (row_lt h1 hj).1
          clear h1 h2
          obtain ⟨o1, HL1'⟩ := lies_any ⟨rm, l1.take k1⟩ aa nn
          obtain ⟨o2, HL2'⟩ := lies_any ⟨rm, l1.take k1⟩ bb nn
          have HL1 := hid HL1'
          have HL2 := hid HL2'
          clear HL1' HL2'
          rcases o1 with _ | ⟨wA, oA⟩
          · rcases o2 with _ | ⟨wB, oB⟩
            · go_wp2_with fail
              rw [HNN.out]
              refine (bytes_no H.out aa nn ha32 (by omega) HL1.out).mono ?_
              rintro e w6 ⟨rfl, h2⟩
              have H : Hid (Mm W.heap.size w6 p g cr V cv ⟨rm, l1.take k1⟩) := H.out.not h2
              have C := hid (C.out.not h2)
              have SW := hid (SW.out.not h2)
              clear h2
              go_wp2_with fail
              refine (bytes_no H.out bb nn hb32 (by omega) HL2.out).mono ?_
              rintro e w7 ⟨rfl, h2⟩
              have H : Hid (Mm W.heap.size w7 p g cr V cv ⟨rm, l1.take k1⟩) := H.out.not h2
              have C := hid (C.out.not h2)
              have SW := hid (SW.out.not h2)
              clear h2
              go_wp2_with fail
              refine (move_out H.out aa bb nn ha32 (by omega) HL1.out).mono ?_
              rintro e w' ⟨rfl, rfl⟩
              go_wp2_with fail
              refine (ram_is H.out R HRm.out).mono ?_
              rintro e w8 ⟨AN, cN, rfl, h1, h2⟩
              have H : Hid (Mm W.heap.size w8 p g cr V cv ⟨rm, l1.take k1⟩) := H.out.not h2
              have C := hid (C.out.not h2)
              have SW := hid (SW.out.not h2)
              have SN : Hid (Src w8 AN rm) := Src.own h1
              clear h1 h2
              go_wp2_with fail
              refine (bytes_yes H.out 4096 k1 (by decide) true _ HL4.out (by omega)).mono ?_
              rintro e w9 ⟨AS, cS, rfl, h1, h2⟩
              rw [(hcut rm).out] at h1
              have C := hid (C.out.not h2)
              have SW := hid (SW.out.not h2)
              have SN := hid (SN.out.not h2)
              have hs1 : (convert 22 9 (.slice AS k1 cS)).run Try.prog w9 = .ok (.string st1) w9 := str_src (Src.own h1) k1 cS hlk1.out (by omega) hst1.out
              have hs2 : (convert 22 9 (.slice X1 k1 cap1)).run Try.prog w9 = .ok (.string st1) w9 := str_src ((HS1.out.not C.out).take k1) k1 cap1 hlk1.out (by omega) hst1.out
              have hs3 : (convert 22 9 (.slice AW R cW)).run Try.prog w9 = .ok (.string st2) w9 := str_src SW.out R cW HRm.out (by omega) hst2.out
              have hs4 : (convert 22 9 (.slice AN R cN)).run Try.prog w9 = .ok (.string st2) w9 := str_src SN.out R cN HRm.out (by omega) hst2.out
              clear h1 h2
              go_wp2_with fail
              refine (awake_any _).mono ?_
              rintro e w10 ⟨rfl, h2⟩
              have C := hid (C.out.not h2)
              clear h2
              go_wp2
              go_ret
              exact ⟨rfl, C.out⟩
            · go_wp2_with fail
              rw [HNN.out]
              refine (bytes_no H.out aa nn ha32 (by omega) HL1.out).mono ?_
              rintro e w6 ⟨rfl, h2⟩
              have H : Hid (Mm W.heap.size w6 p g cr V cv ⟨rm, l1.take k1⟩) := H.out.not h2
              have C := hid (C.out.not h2)
              have SW := hid (SW.out.not h2)
              clear h2
              go_wp2_with fail
              refine (bytes_yes H.out bb nn hb32 wB oB HL2.out (by omega)).mono ?_
              rintro e w7 ⟨A7, c7, rfl, h1, h2⟩
              have H : Hid (Mm W.heap.size w7 p g cr V cv ⟨rm, l1.take k1⟩) := H.out.not h2
              have C := hid (C.out.not h2)
              have SW := hid (SW.out.not h2)
              clear h1 h2
              go_wp2_with fail
              refine (move_out H.out aa bb nn ha32 (by omega) HL1.out).mono ?_
              rintro e w' ⟨rfl, rfl⟩
              go_wp2_with fail
              refine (ram_is H.out R HRm.out).mono ?_
              rintro e w8 ⟨AN, cN, rfl, h1, h2⟩
              have H : Hid (Mm W.heap.size w8 p g cr V cv ⟨rm, l1.take k1⟩) := H.out.not h2
              have C := hid (C.out.not h2)
              have SW := hid (SW.out.not h2)
              have SN : Hid (Src w8 AN rm) := Src.own h1
              clear h1 h2
              go_wp2_with fail
              refine (bytes_yes H.out 4096 k1 (by decide) true _ HL4.out (by omega)).mono ?_
              rintro e w9 ⟨AS, cS, rfl, h1, h2⟩
              rw [(hcut rm).out] at h1
              have C := hid (C.out.not h2)
              have SW := hid (SW.out.not h2)
              have SN := hid (SN.out.not h2)
              have hs1 : (convert 22 9 (.slice AS k1 cS)).run Try.prog w9 = .ok (.string st1) w9 := str_src (Src.own h1) k1 cS hlk1.out (by omega) hst1.out
              have hs2 : (convert 22 9 (.slice X1 k1 cap1)).run Try.prog w9 = .ok (.string st1) w9 := str_src ((HS1.out.not C.out).take k1) k1 cap1 hlk1.out (by omega) hst1.out
              have hs3 : (convert 22 9 (.slice AW R cW)).run Try.prog w9 = .ok (.string st2) w9 := str_src SW.out R cW HRm.out (by omega) hst2.out
              have hs4 : (convert 22 9 (.slice AN R cN)).run Try.prog w9 = .ok (.string st2) w9 := str_src SN.out R cN HRm.out (by omega) hst2.out
              clear h1 h2
              go_wp2_with fail
              refine (awake_any _).mono ?_
              rintro e w10 ⟨rfl, h2⟩
              have C := hid (C.out.not h2)
              clear h2
              go_wp2
              go_ret
              exact ⟨rfl, C.out⟩
          · rcases o2 with _ | ⟨wB, oB⟩
            · go_wp2_with fail
              rw [HNN.out]
              refine (bytes_yes H.out aa nn ha32 wA oA HL1.out (by omega)).mono ?_
              rintro e w6 ⟨A6, c6, rfl, h1, h2⟩
              have H : Hid (Mm W.heap.size w6 p g cr V cv ⟨rm, l1.take k1⟩) := H.out.not h2
              have C := hid (C.out.not h2)
              have SW := hid (SW.out.not h2)
              clear h1 h2
              go_wp2_with fail
              refine (bytes_no H.out bb nn hb32 (by omega) HL2.out).mono ?_
              rintro e w7 ⟨rfl, h2⟩
              have H : Hid (Mm W.heap.size w7 p g cr V cv ⟨rm, l1.take k1⟩) := H.out.not h2
              have C := hid (C.out.not h2)
              have SW := hid (SW.out.not h2)
              clear h2
              go_wp2_with fail
              refine (move_to_out H.out aa bb nn oA wA ha32 hb32 (by omega) HL1.out HL2.out).mono ?_
              rintro e w' ⟨rfl, rfl⟩
              go_wp2_with fail
              refine (ram_is H.out R HRm.out).mono ?_
              rintro e w8 ⟨AN, cN, rfl, h1, h2⟩
              have H : Hid (Mm W.heap.size w8 p g cr V cv ⟨rm, l1.take k1⟩) := H.out.not h2
              have C := hid (C.out.not h2)
              have SW := hid (SW.out.not h2)
              have SN : Hid (Src w8 AN rm) := Src.own h1
              clear h1 h2
              go_wp2_with fail
              refine (bytes_yes H.out 4096 k1 (by decide) true _ HL4.out (by omega)).mono ?_
              rintro e w9 ⟨AS, cS, rfl, h1, h2⟩
              rw [(hcut rm).out] at h1
              have C := hid (C.out.not h2)
              have SW := hid (SW.out.not h2)
              have SN := hid (SN.out.not h2)
              have hs1 : (convert 22 9 (.slice AS k1 cS)).run Try.prog w9 = .ok (.string st1) w9 := str_src (Src.own h1) k1 cS hlk1.out (by omega) hst1.out
              have hs2 : (convert 22 9 (.slice X1 k1 cap1)).run Try.prog w9 = .ok (.string st1) w9 := str_src ((HS1.out.not C.out).take k1) k1 cap1 hlk1.out (by omega) hst1.out
              have hs3 : (convert 22 9 (.slice AW R cW)).run Try.prog w9 = .ok (.string st2) w9 := str_src SW.out R cW HRm.out (by omega) hst2.out
              have hs4 : (convert 22 9 (.slice AN R cN)).run Try.prog w9 = .ok (.string st2) w9 := str_src SN.out R cN HRm.out (by omega) hst2.out
              clear h1 h2
              go_wp2_with fail
              refine (awake_any _).mono ?_
              rintro e w10 ⟨rfl, h2⟩
              have C := hid (C.out.not h2)
              clear h2
              go_wp2
              go_ret
              exact ⟨rfl, C.out⟩
            · have hwB : wB = false ∧ oB = bb - 1048576 ∧ oB + nn ≤ R := by
                rcases lies_inv HL2.out with ⟨_, _, hf⟩ | ⟨h1, h2, _, hf⟩
                · have h3 : bb - 4096 + nn ≤ (l1.take k1).length := hf.2
                  rw [hlk1.out] at h3; omega
                · have h3 : bb - 1048576 + nn ≤ rm.length := hf.2
                  rw [HRm.out] at h3
                  exact ⟨h1, h2, by omega⟩
              obtain ⟨rfl, hoB, hoR⟩ := hwB
              have HOB : Hid ((bb : Int) - 1048576 = (oB : Int)) := by show _ = _; omega
              clear hoB
              obtain ⟨ys, hys⟩ : ∃ ys, (⟨rm, l1.take k1⟩ : Mem).cut wA oA nn = ys := ⟨_, rfl⟩
              go_wp2_with fail
              rw [HNN.out]
              refine (bytes_yes H.out aa nn ha32 wA oA HL1.out (by omega)).mono ?_
              rintro e w6 ⟨A6, c6, rfl, h1, h2⟩
              rw [hys] at h1
              have hyl : ys.length = nn := by simpa using h1.1
              have SX : Hid (Src w6 A6 ys) := Src.own h1
              have HAX : Hid (∀ j, (Value.slice A6 nn c6).ownBlock = some j → w5.heap.size ≤ j) := fun j hj => (row_lt h1 hj).1
              have H : Hid (Mm W.heap.size w6 p g cr V cv ⟨rm, l1.take k1⟩) := H.out.not h2
              have C := hid (C.out.not h2)
              have SW := hid (SW.out.not h2)
              clear h1 h2
              go_wp2_with fail
              refine (bytes_yes H.out bb nn hb32 false oB HL2.out (by omega)).mono ?_
              rintro e w7 ⟨A7, c7, rfl, h1, h2⟩
              have H : Hid (Mm W.heap.size w7 p g cr V cv ⟨rm, l1.take k1⟩) := H.out.not h2
              have C := hid (C.out.not h2)
              have SW := hid (SW.out.not h2)
              have SX := hid (SX.out.not h2)
              clear h1 h2
              go_wp2_with fail
              refine (move_yes H.out aa bb nn oA oB wA ha32 hb32 (by omega) HL1.out HL2.out).mono ?_
              rintro e w8 ⟨rfl, h1, h2⟩
              rw [hys] at h1
              have C := hid (C.out.ram H.out h2)
              have H : Hid (Mm W.heap.size w8 p g cr V cv ⟨put rm oB ys, l1.take k1⟩) := h1
              have SW := hid (SW.out.chg h2 (fun ad ha he => by have := HAW.out ad.block (by rw [ha]; rfl); have := HG.out; omega))
              have SX := hid (SX.out.chg h2 (fun ad ha he => by have := HAX.out ad.block (by rw [ha]; rfl); have := HG.out; omega))
              clear h1 h2
              have hpl : Hid ((put rm oB ys).length = R) := by show _ = _; rw [put_length _ _ _ (by rw [hyl, HRm.out]; exact hoR)]; exact HRm.out
              have HL5 : Hid (Lies ⟨put rm oB ys, l1.take k1⟩ 4096 k1 (some (true, 4096 - 4096))) := .win ⟨Nat.le_refl _, by show 4096 - 4096 + k1 ≤ (l1.take k1).length; rw [hlk1.out]; omega⟩
              go_wp2_with fail
              refine (ram_is H.out R hpl.out).mono ?_
              rintro e w9 ⟨AN, cN, rfl, h1, h2⟩
              have H : Hid (Mm W.heap.size w9 p g cr V cv ⟨put rm oB ys, l1.take k1⟩) := H.out.not h2
              have C := hid (C.out.not h2)
              have SW := hid (SW.out.not h2)
              have SX := hid (SX.out.not h2)
              have SN : Hid (Src w9 AN (put rm oB ys)) := Src.own h1
              have hcN : R ≤ cN := (own_cap h1).1
              clear h1 h2
              go_wp2_with fail
              refine (bytes_yes H.out 4096 k1 (by decide) true _ HL5.out (by omega)).mono ?_
              rintro e w10 ⟨AS, cS, rfl, h1, h2⟩
              rw [(hcut _).out] at h1
              have C := hid (C.out.not h2)
              have SW := hid (SW.out.not h2)
              have SX := hid (SX.out.not h2)
              have SN := hid (SN.out.not h2)
              have hs1 : (convert 22 9 (.slice AS k1 cS)).run Try.prog w10 = .ok (.string st1) w10 := str_src (Src.own h1) k1 cS hlk1.out (by omega) hst1.out
              have hs2 : (convert 22 9 (.slice X1 k1 cap1)).run Try.prog w10 = .ok (.string st1) w10 := str_src ((HS1.out.not C.out).take k1) k1 cap1 hlk1.out (by omega) hst1.out
              clear h1 h2 H HL1 HL2 HL4 HL5
              go_wp2_with fail
              rw [HOB.out]
              obtain ⟨y0, hy0⟩ : ∃ y, rm[0]? = some y := ⟨rm[0]'(by rw [HRm.out]; omega), by simp⟩
              obtain ⟨adW, rfl, -⟩ := SW.out.cell hy0
              obtain ⟨y1, hy1⟩ : ∃ y, (put rm oB ys)[0]? = some y := ⟨(put rm oB ys)[0]'(by rw [hpl.out]; omega), by simp⟩
              obtain ⟨adN, rfl, -⟩ := SN.out.cell hy1
              clear hy0 hy1
              obtain ⟨YN, hYN⟩ : ∃ Y, (if cN = oB then some adN else some (adN.add oB)) = Y := ⟨_, rfl⟩
              obtain ⟨YN2, hYN2⟩ : ∃ Y, (if cN = oB + nn then some adN else some (adN.add (oB + nn))) = Y := ⟨_, rfl⟩
              obtain ⟨YW2, hYW2⟩ : ∃ Y, (if cW = oB + nn then some adW else some (adW.add (oB + nn))) = Y := ⟨_, rfl⟩
              have hmid : ((put rm oB ys).drop oB).take nn = ys := by
                unfold put
                have ht : (rm.take oB).length = oB := by rw [List.length_take, HRm.out]; omega
                rw [List.append_assoc, List.drop_left' ht, List.take_left' hyl]
              have hpre : (put rm oB ys).take oB = rm.take oB := by
                unfold put
                have ht : (rm.take oB).length = oB := by rw [List.length_take, HRm.out]; omega
                rw [List.append_assoc, List.take_left' ht]
              have hpost : (put rm oB ys).drop (oB + nn) = rm.drop (oB + nn) := by
                unfold put
                have ht : (rm.take oB ++ ys).length = oB + nn := by rw [List.length_append, List.length_take, HRm.out, hyl]; omega
                rw [List.drop_left' ht, hyl]
              have D : Chg Not w10 w10.drew := (Chg.refl _ _).drew
              have SX := SX.out.not D
              have SN := SN.out.not D
              have SW := SW.out.not D
              have C := hid (C.out.not D)
              have S1 : Src w10.drew YN ys := by
                rw [← hYN]
                split
                · have hn0 : nn = 0 := by omega
                  have : ys = [] := List.eq_nil_of_length_eq_zero (by omega)
                  rw [this]; exact Src.nil
                · have := SN.mid oB nn
                  rwa [hmid] at this
              have S2 : Src w10.drew YN2 (rm.drop (oB + nn)) := by
                rw [← hYN2]
                split
                · have : rm.drop (oB + nn) = [] := List.drop_eq_nil_of_le (by rw [HRm.out]; omega)
                  rw [this]; exact Src.nil
                · have := SN.mid (oB + nn) (R - (oB + nn))
                  rw [hpost, List.take_of_length_le (Nat.le_of_eq (by rw [List.length_drop, HRm.out]))] at this
                  exact this
              have S3 : Src w10.drew YW2 (rm.drop (oB + nn)) := by
                rw [← hYW2]
                split
                · have : rm.drop (oB + nn) = [] := List.drop_eq_nil_of_le (by rw [HRm.out]; omega)
                  rw [this]; exact Src.nil
                · have := SW.mid (oB + nn) (R - (oB + nn))
                  rw [List.take_of_length_le (Nat.le_of_eq (by rw [List.length_drop, HRm.out]))] at this
                  exact this
              have S4 : Src w10.drew (some adN) (rm.take oB) := by
                have := SN.mid 0 oB
                rw [List.drop_zero, hpre] at this
                exact this
              have S5 : Src w10.drew (some adW) (rm.take oB) := by
                have := SW.mid 0 oB
                rw [List.drop_zero] at this
                exact this
              obtain ⟨s1, hs1'⟩ : ∃ s, strOfNums ys = s := ⟨_, rfl⟩
              obtain ⟨s2, hs2'⟩ : ∃ s, strOfNums (rm.take oB) = s := ⟨_, rfl⟩
              obtain ⟨s3, hs3'⟩ : ∃ s, strOfNums (rm.drop (oB + nn)) = s := ⟨_, rfl⟩
              have d1 : (rm.take oB).length = oB := by rw [List.length_take, HRm.out]; omega
              have d2 : (rm.drop (oB + nn)).length = R - (oB + nn) := by rw [List.length_drop, HRm.out]
              have v1 : (convert 22 9 (.slice YN nn (cN - oB))).run Try.prog w10.drew = .ok (.string s1) w10.drew := str_src S1 nn _ hyl (by omega) hs1'
              have v2 : (convert 22 9 (.slice A6 nn c6)).run Try.prog w10.drew = .ok (.string s1) w10.drew := str_src SX nn _ hyl (by omega) hs1'
              have v3 : (convert 22 9 (.slice (some adN) oB cN)).run Try.prog w10.drew = .ok (.string s2) w10.drew := str_src S4 oB _ d1 (by omega) hs2'
              have v4 : (convert 22 9 (.slice (some adW) oB cW)).run Try.prog w10.drew = .ok (.string s2) w10.drew := str_src S5 oB _ d1 (by omega) hs2'
              have v5 : (convert 22 9 (.slice YN2 (R - (oB + nn)) (cN - (oB + nn)))).run Try.prog w10.drew = .ok (.string s3) w10.drew := str_src S2 _ _ d2 (by omega) hs3'
              have v6 : (convert 22 9 (.slice YW2 (R - (oB + nn)) (cW - (oB + nn)))).run Try.prog w10.drew = .ok (.string s3) w10.drew := str_src S3 _ _ d2 (by omega) hs3'
              have w3 : IntKind.i64.wrap ((oB : Int) + nn) = (oB : Int) + nn := IntWalk.i64_in _ (by omega)
              have w4 : IntKind.i64.wrap (oB : Int) = (oB : Int) := IntWalk.i64_in _ (by omega)
              have w5n : IntKind.i64.wrap (nn : Int) = (nn : Int) := IntWalk.i64_in _ (by omega)
              have t11 : oB ≤ oB + nn := by omega
              have t12 : ((oB : Int) + (nn : Int)).toNat = oB + nn := by omega
              have t13 : oB + nn - oB = nn := by omega
              have t1 : oB + nn ≤ cN := by omega
              have t2 : oB + nn ≤ R := by omega
              have t3 : (oB : Int) + nn ≤ cN := by omega
              have t4 : (oB : Int) + nn ≤ R := by omega
              have t5 : (0 : Int) ≤ (oB : Int) + nn := by omega
              have t6 : oB ≤ cN := by omega
              have t7 : oB ≤ cW := by omega
              have t8 : (oB : Int) ≤ cN := by omega
              have t9 : (oB : Int) ≤ cW := by omega
              have t10 : (oB : Int) ≤ (oB : Int) + nn := by omega
              clear S1 S2 S3 S4 S5 SX SN SW hs1 hs2 hs1' hs2' hs3' hmid hpre hpost D d1 d2 hst1 hst2 hcut HAW HAX
              go_still_tail 40, (by kernel_rfl)
              change wpList _ _ _ _ _ w10.drew
              generalize w10.drew = w11 at *
              go_wp2_with fail
              refine (awake_any _).mono ?_
              rintro e w12 ⟨rfl, h2⟩
              have C := hid (C.out.not h2)
              clear h2
              go_wp2
              go_ret
              exact ⟨rfl, C.out⟩
end Go.Proofs.Ytpainiehceniiaa
