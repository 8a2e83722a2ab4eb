/- MemWindow. -/
import Derived.Test.YtpainiehceniiaaS
import Derived.Deep.RegionLaw
import Derived.Deep.DeepCutAuto
namespace Go.Proofs.Ytpainiehceniiaa
open Go.RowKit Go.Shelf Go.Proofs.YtpainiehceniiaaW.PrintWords Go.Proofs.YtpainiehceniiaaW.PrintMore
set_option linter.unusedVariables false
attribute [local go_sem] min2_int min_two

theorem run_appX (w : World) (ty : TypeId) (base : Nat) (v : Value) (n : Nat) (xs : List Value) (hown : w.ownsRow base 5 1 v n xs) (X : Option Addr) (m c : Nat) (ys : List Int) (hm : ys.length = m) (hs : Src w X ys) (hc0 : X = none → c = 0)
    (hb : n + m ≤ 140737488355328) (hbase : base ≤ w.heap.size) :
    ∃ v' w', (Builtin.append_ #[22, 22] ty #[v, .slice X m c]).run Try.prog w = .ok v' w' ∧ w'.ownsRow base 5 1 v' (n + m) (xs ++ ys.map (Value.int .u8)) ∧ w.grownBy w' v.ownBlock := by
  rcases X with _ | ad
  · have h1 := hs.non rfl
    subst h1
    obtain rfl := hc0 rfl
    obtain rfl : m = 0 := by simpa using hm.symm
    obtain ⟨i0, hi, hzz⟩ := Option.map_eq_some_iff.1 info5
    simp only [Prod.mk.injEq] at hzz
    obtain ⟨hz0, hz1, hz2⟩ := hzz
    exact ⟨v, w, run_append_owned_none (P := Try.prog) w base 22 ty 5 i0 1 Try.underlying22 hi v n xs hown, by simpa using hown, ⟨rfl, rfl, rfl, Nat.le_refl _, fun _ _ _ => rfl⟩⟩
  · obtain ⟨v', w', hr, h2, h3, _⟩ := run_app w ty base v n xs hown ad m c ys hm hs hb hbase
    exact ⟨v', w', hr, h2, h3⟩
theorem step_app {ops : Array Oper} {o : Oper} {a : Act} {w : World} {K : Act → World → Prop} {Q : Exit → Act → World → Prop} {E : Prop} (hg : o.guard = none) (s x : Operand)
    (ho : o.op = .call { callee := .builtin .append, args := #[s, x], argTypes := #[22, 22] })
    (base : Nat) (v : Value) (n : Nat) (xs : List Value) (hs : a.eval s = v) (hown : w.ownsRow base 5 1 v n xs)
    (X : Option Addr) (m c : Nat) (ys : List Int) (hx : a.eval x = .slice X m c) (hm : ys.length = m) (hsrc : Src w X ys) (hc0 : X = none → c = 0) (hb : n + m ≤ 140737488355328) (hbase : base ≤ w.heap.size)
    (h : ∀ A' c' w', w'.ownsRow base 5 1 (.slice A' (n + m) c') (n + m) (xs ++ ys.map (Value.int .u8)) → w.grownBy w' v.ownBlock → K (a.put o.dst (.slice A' (n + m) c')) w') :
    if Region.wanted o (yielded ops a.tmps) = true then Oper.wp Try.prog o a w K Q else E := by
  have hw : Region.wanted o (yielded ops a.tmps) = true := by simp [Region.wanted, hg]
  rw [if_pos hw]
  obtain ⟨v', w', hr, h2, h3⟩ := run_appX w o.type base v n xs hown X m c ys hm hsrc hc0 hb hbase
  obtain ⟨A', c', rfl⟩ := own_shape h2
  unfold Oper.wp execOp
  simp only [ho, resolve, invoke, builtin, Sem.run_bind, Sem.run_pure, Result.andThen_ok, List.map_toArray, List.map_cons, List.map_nil, hs, hx, hr]
  exact h A' c' w' h2 h3
theorem Src.take {W : World} {X : Option Addr} {ys : List Int} (h : Src W X ys) (k : Nat) : Src W X (ys.take k) := by
  refine ⟨fun hx => by rw [h.non hx]; simp, fun ad ha j u hu => h.at' ad ha j u ?_⟩
  rw [List.map_take, List.getElem?_take] at hu
  split at hu
  · exact hu
  · cases hu

/-- a block that is older than the memory is turned. -/
theorem Mm.far {B : Nat} {W W' : World} {p g cr : Nat} {V : Option Addr} {cv : Nat} {m : Mem} (h : Mm B W p g cr V cv m) {k : Nat} (hc : Chg (fun j => j = k) W W') (hk : k < B) : Mm B W' p g cr V cv m :=
  ⟨h.base, hc.at h.blk (fun he => by have := h.base; omega), hc.row h.ram (fun j hj he => by have := (row_lt h.ram hj).1; omega), hc.row h.win (fun j hj he => by have := (row_lt h.win hj).1; omega), h.apart, h.len, h.wlen⟩
set_option maxRecDepth 100000 in
set_option maxHeartbeats 4000000 in
theorem window_law (W : World) (X1 X2 : Option Addr) (len1 cap1 len2 cap2 : Nat) (l1 l2 : List Int) (a1 a2 : Int)
    (hl1 : l1.length = len1) (hb1 : len1 ≤ 2 ^ 47) (hc1 : len1 ≤ cap1) (hs1 : Src W X1 l1) (hl2 : l2.length = len2) (hb2 : len2 ≤ 2 ^ 47) (hc2 : len2 ≤ cap2) (hs2 : Src W X2 l2) (hcn1 : X1 = none → cap1 = 0) (hcn2 : X2 = none → cap2 = 0) (h10 : 0 ≤ a1) (h11 : a1 ≤ 65535) (h20 : 0 ≤ a2) (h21 : a2 ≤ 4294967295) :
    Calls Try.prog 7 #[.slice X1 len1 cap1, .int .u16 a1, .int .u32 a2, .slice X2 len2 cap2] W fun e W' => e = .returned (.bool true) ∧ Chg Not W W' := by
  have HS1 := hid hs1
  have HS2 := hid hs2
  clear hs1 hs2
  obtain ⟨k1, hk1⟩ : ∃ k1, k1 = min len1 300 := ⟨_, rfl⟩
  obtain ⟨k2, hk2⟩ : ∃ k2, k2 = min len2 300 := ⟨_, rfl⟩
  have m1 : (if 300 < (len1 : Int) then 300 else (len1 : Int)) = (k1 : Int) := by split <;> omega
  have m2 : (if 300 < (len2 : Int) then 300 else (len2 : Int)) = (k2 : Int) := by split <;> omega
  have q1 : (k1 : Int) ≤ cap1 := by omega
  have q2 : (k2 : Int) ≤ cap2 := by omega
  have q3 : k1 ≤ cap1 := by omega
  have q4 : k2 ≤ cap2 := by omega
  have e1 : k1 ≤ len1 := by omega
  have e2 : k2 ≤ len2 := by omega
  have e3 : k1 ≤ 300 := by omega
  have e4 : k2 ≤ 300 := by omega
  have w1 : IntKind.i64.wrap (k1 : Int) = k1 := IntWalk.i64_in _ (by omega)
  have w2 : IntKind.i64.wrap (k2 : Int) = k2 := IntWalk.i64_in _ (by omega)
  clear hk1 hk2
  have E0 : Hid ((W.drew.alloc (.cells #[] 5)).ownsRow W.heap.size 5 1 (.slice (some ⟨W.heap.size, 0, none⟩) 0 0) 0 []) := ⟨rfl, .inr ⟨W.heap.size, 0, #[], rfl, Nat.le_refl _, heap_alloc_new W.drew _, Nat.le_refl _, by simp [maxLen], rfl, rfl⟩⟩
  have CD := hid (((Chg.refl Not W).drew).alloc (.cells #[] 5))
  go_enter Try.func7, Try.ntmps7
  go_upto_region 1 with fail
  go_cut [0, 3] (fun s0 s3 wx => ∃ (A : Option Addr) (c : Nat), s0 = .slice X1 k1 cap1 ∧ s3 = .slice A k2 c ∧ wx.ownsRow W.heap.size 5 1 (.slice A k2 c) k2 ((l2.take k2).map (Value.int .u8)) ∧ Chg Not W wx)
  case first =>
    have S2 := hid ((HS2.out.not CD.out).take k2)
    have ht2 := hid (show (l2.take k2).length = k2 by rw [List.length_take]; omega)
    go_region_law (refine step_app rfl (.tmp 26) (.tmp 31) rfl W.heap.size (.slice (some ⟨W.heap.size, 0, none⟩) 0 0) 0 [] (by simp [Act.eval, Act.put]) E0.out X2 k2 cap2 (l2.take k2) (by simp [Act.eval, Act.put]) ht2.out S2.out hcn2 (by omega) (by simp) ?_; intro A c v1 hown hgrow; have R1 := hid hown; have G1 := hid hgrow; clear hown hgrow)
    all_goals (go_wp2_with fail; go_meet; refine ⟨A, c, rfl, rfl, by simpa using R1.out, CD.out.trans (Chg.of_grown G1.out) (fun k hk he => by
      have he : some k = some W.heap.size := he
      injection he with he
      omega)⟩)
  case rest =>
    obtain ⟨A, c, rfl, rfl, R, C⟩ := hcut
    have R := hid R
    have C := hid C
    clear CD E0
    have hlk1 := hid (show (l1.take k1).length = k1 by rw [List.length_take]; omega)
    have hlk2 := hid (show (l2.take k2).length = k2 by rw [List.length_take]; omega)
    by_cases h4 : k1 < 4
    · have b0 : decide ((k1 : Int) < 4) = true := decide_eq_true (by omega)
      go_wp2_with fail
      refine (awake_any _).mono ?_
      rintro e w4 ⟨rfl, h4⟩
      have C := hid (C.out.not h4)
      clear h4
      go_wp2
      go_ret
      exact ⟨rfl, C.out⟩
    · have b0 : decide ((k1 : Int) < 4) = false := decide_eq_false (by omega)
      go_wp2_with fail
      refine (new_yes wc 64 X1 k1 cap1 (l1.take k1) (by decide) (by decide) (by decide) (by omega) hlk1.out ((HS1.out.not C.out).take k1) hcn1).mono ?_
      rintro e w2 ⟨p, g, cr, V, cv, rfl, h1, h2⟩
      have HA : Hid (∀ j, (Value.slice A k2 c).ownBlock = some j → j < wc.heap.size) := fun j hj => (row_lt R.out hj).2
      have H : Hid (Mm wc.heap.size w2 p g cr V cv ⟨List.replicate 64 0, l1.take k1⟩) := h1
      have HB : Hid (wc.heap.size ≤ w2.heap.size) := h2.size
      have HW : Hid (W.heap.size ≤ wc.heap.size) := C.out.size
      have R := hid (h2.row R.out (fun _ _ h => h))
      have C := hid (C.out.not h2)
      clear h1 h2
      obtain ⟨kk, hkk⟩ : ∃ kk : Nat, (kk : Int) = 4096 + a1 % ((k1 : Int) - 3) := ⟨(4096 + a1 % ((k1 : Int) - 3)).toNat, by have := Int.emod_nonneg a1 (show (k1 : Int) - 3 ≠ 0 by omega); omega⟩
      have hr0 := Int.emod_nonneg a1 (show (k1 : Int) - 3 ≠ 0 by omega)
      have hr1 := Int.emod_lt_of_pos a1 (show (0 : Int) < (k1 : Int) - 3 by omega)
      have HK : Hid ((4096 + a1 % ((k1 : Int) - 3)) % 4294967296 = (kk : Int)) := by show _ = _; omega
      obtain ⟨cc, hcc⟩ : ∃ cc : Nat, (cc : Int) = (kk : Int) / 4 * 4 := ⟨kk / 4 * 4, by omega⟩
      have HC : Hid ((kk : Int) / 4 * 4 = (cc : Int)) := hcc.symm
      have z1 : 4096 ≤ kk := by omega
      have z2 : kk + 4 ≤ 4096 + k1 := by omega
      have z3 : cc % 4 = 0 := by omega
      have z4 : 4096 ≤ cc := by omega
      have z5 : cc + 4 ≤ 4096 + k1 := by omega
      have HL : Hid (∀ n, n ≤ 4 → Lies ⟨List.replicate 64 0, l1.take k1⟩ kk n (some (true, kk - 4096))) := fun n hn => .win ⟨z1, by show kk - 4096 + n ≤ (l1.take k1).length; rw [hlk1.out]; omega⟩
      have HL2 : Hid (Lies ⟨List.replicate 64 0, l1.take k1⟩ cc 4 (some (true, cc - 4096))) := .win ⟨z4, by show cc - 4096 + 4 ≤ (l1.take k1).length; rw [hlk1.out]; omega⟩
      have HL3 : Hid (Lies ⟨List.replicate 64 0, l1.take k1⟩ 1048576 2 (some (false, 1048576 - 1048576))) := .ram (fun h => by have h2 : 1048576 - 4096 + 2 ≤ (l1.take k1).length := h.2; rw [hlk1.out] at h2; omega) ⟨Nat.le_refl _, by show 1048576 - 1048576 + 2 ≤ (List.replicate 64 (0 : Int)).length; rw [List.length_replicate]; omega⟩
      have HL4 : Hid (Lies ⟨List.replicate 64 0, l1.take k1⟩ 4096 k1 (some (true, 4096 - 4096))) := .win ⟨Nat.le_refl _, by show 4096 - 4096 + k1 ≤ (l1.take k1).length; rw [hlk1.out]; omega⟩
      clear hkk hcc hr0 hr1
      go_wp2_with fail
      rw [HK.out, HC.out]
      refine (setByte_win H.out kk _ _ (by omega) (HL.out 1 (by decide))).mono ?_
      rintro e w' ⟨rfl, rfl⟩
      go_wp2_with fail
      refine (store_win H.out cc _ _ (by omega) z3 HL2.out).mono ?_
      rintro e w' ⟨rfl, rfl⟩
      go_wp2_with fail
      refine (fill_win H.out kk 3 _ _ (by omega) (by decide) (by decide) (HL.out 3 (by decide))).mono ?_
      rintro e w' ⟨rfl, rfl⟩
      go_wp2_with fail
      refine (move_win H.out 1048576 kk 2 _ _ false (by decide) (by omega) (by decide) (by decide) HL3.out (HL.out 2 (by decide))).mono ?_
      rintro e w' ⟨rfl, rfl⟩
      go_wp2_with fail
      refine (fill_win0 H.out kk _ 1 (by omega) (HL.out 0 (by decide))).mono ?_
      rintro e w' ⟨rfl, rfl⟩
      go_wp2_with fail
      have hcut : Hid ((⟨List.replicate 64 0, l1.take k1⟩ : Mem).cut true (4096 - 4096) k1 = l1.take k1) := by
        show ((l1.take k1).drop 0).take k1 = l1.take k1
        rw [List.drop_zero, List.take_take, Nat.min_self]
      refine (bytes_yes H.out 4096 k1 (by decide) true _ HL4.out (by omega)).mono ?_
      rintro e w3 ⟨A1, c1, rfl, h1, h2⟩
      rw [hcut.out] at h1
      obtain ⟨st1, hst1⟩ : ∃ s, strOfNums (l1.take k1) = s := ⟨_, rfl⟩
      obtain ⟨st2, hst2⟩ : ∃ s, strOfNums (l2.take k2) = s := ⟨_, rfl⟩
      have H : Hid (Mm wc.heap.size w3 p g cr V cv ⟨List.replicate 64 0, l1.take k1⟩) := H.out.not h2
      have HB : Hid (wc.heap.size ≤ w3.heap.size) := Nat.le_trans HB.out h2.size
      have R := hid (h2.row R.out (fun _ _ h => h))
      have C := hid (C.out.not h2)
      have hs1 : (convert 22 9 (.slice A1 k1 c1)).run Try.prog w3 = .ok (.string st1) w3 := str_src (Src.own h1) k1 c1 hlk1.out (by omega) hst1
      have hs2 : (convert 22 9 (.slice X1 k1 cap1)).run Try.prog w3 = .ok (.string st1) w3 := str_src ((HS1.out.not C.out).take k1) k1 cap1 hlk1.out (by omega) hst1
      have HC0 : Hid (A = none → c = 0) := fun hA => by
        rcases R.out.2 with ⟨hv, _⟩ | ⟨g, cap, cur, hv, _⟩
        · injection hv
        · injection hv with hv; rw [hA] at hv; cases hv
      clear h1 h2 hst1 HK HC HL HL2 HL3 HL4 hcut z1 z2 z3 z4 z5
      go_wp2_with fail
      refine (show_yes H.out HB.out A k2 c (l2.take k2) (by omega) hlk2.out (Src.own R.out) HC0.out).mono ?_
      rintro e w4 ⟨rfl, V', cv', h1, h2⟩
      have hpA : ∀ j, (Value.slice A k2 c).ownBlock = some j → j ≠ p := fun j hj => by have := HA.out j hj; have := H.out.base; omega
      have C := hid (C.out.trans h2 (fun k hk he => by have := H.out.base; have := HW.out; omega))
      have R := hid (h2.row R.out (fun j hj he => hpA j hj he))
      have HB : Hid (wc.heap.size ≤ w4.heap.size) := Nat.le_trans HB.out h2.size
      have H : Hid (Mm wc.heap.size w4 p g cr V' cv' ⟨List.replicate 64 0, l2.take k2⟩) := h1
      have hs3 : (convert 22 9 (.slice A k2 c)).run Try.prog w4 = .ok (.string st2) w4 := str_src (Src.own R.out) k2 c hlk2.out (by omega) hst2
      clear h1 h2 hs1 hs2 hpA
      go_wp2_with fail
      go_loopw [16, 115] (fun _ v wr => ∃ (j : Nat) (vs : List Int), v = .int .i64 j ∧ j ≤ k2 ∧ Hid (Mm wc.heap.size wr p g cr V' cv' ⟨List.replicate 64 0, l2.take k2⟩) ∧ Hid (wr.ownsRow W.heap.size 5 1 (.slice A k2 c) k2 (vs.map (Value.int .u8))) ∧ Hid (Chg Not W wr)) (fun _ v _ => k2 - (intOf v).toNat)
      case atStart => exact ⟨0, _, rfl, by omega, H, R, C⟩
      case round =>
        clear H R C hs3
        obtain ⟨j, vs, rfl, hj, H, R, C⟩ := hrel
        have hvl : vs.length = k2 := by simpa using R.out.1
        by_cases hlt : j < k2
        · obtain ⟨x, hx⟩ : ∃ x, vs[j]? = some x := ⟨vs[j]'(by omega), by simp⟩
          obtain ⟨gA, rfl, k0⟩ := own_cell (x := .int .u8 x) R.out (by simp [hx] : (vs.map (Value.int .u8))[j]? = _)
          have f0 := (own_free R.out j).1
          have hgA : gA < wc.heap.size := HA.out gA rfl
          have hgB : W.heap.size ≤ gA := (own_free R.out j).2.1
          have R2 : ∀ y : Int, Hid ((wr.setCell ⟨gA, j, none⟩ (.int .u8 y)).ownsRow W.heap.size 5 1 (.slice (some ⟨gA, 0, none⟩) k2 c) k2 ((vs.set j y).map (Value.int .u8))) := fun y => by
            show World.ownsRow _ _ _ _ _ _ _
            rw [List.map_set]
            exact own_set R.out j _
          have H2 : ∀ y : Int, Hid (Mm wc.heap.size (wr.setCell ⟨gA, j, none⟩ (.int .u8 y)) p g cr V' cv' ⟨List.replicate 64 0, l2.take k2⟩) := fun y => H.out.far (k := gA) ((Chg.refl (fun k => k = gA) wr).setCell (fun _ => rfl) _) hgA
          have C2 : ∀ y : Int, Hid (Chg Not W (wr.setCell ⟨gA, j, none⟩ (.int .u8 y))) := fun y => C.out.setCell (fun h => by have h : gA < W.heap.size := h; omega) _
          clear hx R H C
          go_wp2
          go_roundw
          case rel => exact ⟨j + 1, _, by go_num, by omega, H2 _, R2 _, C2 _⟩
          case measure => simp [intOf]; omega
        · have HL5 : Hid (Lies ⟨List.replicate 64 0, l2.take k2⟩ 4096 k2 (some (true, 4096 - 4096))) := .win ⟨Nat.le_refl _, by show 4096 - 4096 + k2 ≤ (l2.take k2).length; rw [hlk2.out]; omega⟩
          have HL6 : Hid (Lies ⟨List.replicate 64 0, l2.take k2⟩ (4096 + k2) 1 none) := .none (fun h => by have h2 : 4096 + k2 - 4096 + 1 ≤ (l2.take k2).length := h.2; rw [hlk2.out] at h2; omega) (fun h => by have h2 : 1048576 ≤ 4096 + k2 := h.1; omega)
          have hcut : Hid ((⟨List.replicate 64 0, l2.take k2⟩ : Mem).cut true (4096 - 4096) k2 = l2.take k2) := by
            show ((l2.take k2).drop 0).take k2 = l2.take k2
            rw [List.drop_zero, List.take_take, Nat.min_self]
          have hkk : Hid (4096 + (k2 : Int) = ((4096 + k2 : Nat) : Int)) := by show _ = _; omega
          clear R
          go_wp2_with fail
          refine (bytes_yes H.out 4096 k2 (by decide) true _ HL5.out (by omega)).mono ?_
          rintro e w5 ⟨A2, c2, rfl, h1, h2⟩
          rw [hcut.out] at h1
          have H : Hid (Mm wc.heap.size w5 p g cr V' cv' ⟨List.replicate 64 0, l2.take k2⟩) := H.out.not h2
          have C := hid (C.out.not h2)
          have hs4 : (convert 22 9 (.slice A2 k2 c2)).run Try.prog w5 = .ok (.string st2) w5 := str_src (Src.own h1) k2 c2 hlk2.out (by omega) hst2
          clear h1 h2
          go_wp2_with fail
          rw [hkk.out]
          refine (byte_no H.out (4096 + k2) (by omega) HL6.out).mono ?_
          rintro e w' ⟨rfl, rfl⟩
          go_wp2_with fail
          refine (awake_any _).mono ?_
          rintro e w6 ⟨rfl, h2⟩
          have C := hid (C.out.not h2)
          clear h2
          go_wp2
          go_ret
          exact ⟨rfl, C.out⟩
end Go.Proofs.Ytpainiehceniiaa
