/- MemNone: printed by wip/mem/genR.py. -/
import Derived.Test.YtpainiehceniiaaQ
namespace Go.Proofs.Ytpainiehceniiaa
open Go.RowKit Go.Shelf Go.Proofs.YtpainiehceniiaaW.PrintWords
set_option linter.unusedVariables false

structure Two (W0 W : World) (p g : Nat) : Prop where
  chg : Chg Not W0 W
  zero : W.heap[p]? = some (.cells #[.slice none 0 0, .slice none 0 0] 50 (0, 0))
  row : W.heap[g]? = some (.cells #[.pointer none, ptr p] 25 (0, 0))
theorem Two.not {W0 W W' : World} {p g : Nat} (h : Two W0 W p g) (hc : Chg Not W W') : Two W0 W' p g := ⟨h.chg.not hc, hc.at h.zero (fun h => h), hc.at h.row (fun h => h)⟩
theorem Two.c0 {W0 W : World} {p g : Nat} (h : Two W0 W p g) : W.cell? ⟨g, 0, none⟩ = some (.pointer none) := cells_cell h.row rfl
theorem Two.c1 {W0 W : World} {p g : Nat} (h : Two W0 W p g) : W.cell? ⟨g, 1, none⟩ = some (ptr p) := cells_cell h.row rfl
theorem src_made (w : World) (n : Nat) : Src (w.alloc (.cells (Array.replicate n (.int .u8 0)) 5)) (some ⟨w.heap.size, 0, none⟩) (List.replicate n 0) := by
  have := src_build w (List.replicate n 0)
  rwa [show ((List.replicate n (0 : Int)).map (Value.int .u8)).toArray = Array.replicate n (.int .u8 0) by simp] at this

set_option maxRecDepth 100000 in
set_option maxHeartbeats 4000000 in
theorem none_any (W : World) (a n : Nat) (ha : a < 4294967296) (hn : n < 4294967296) : Calls Try.prog 4 #[.int .u32 a, .int .u32 n] W fun e W' => e = .returned (.bool true) ∧ Chg Not W W' := by
  go_enter Try.func4, Try.ntmps4
  go_wp2_with fail
  go_loopw [6, 7, 8, 9, 10, 11, 12, 23] (fun _ _ _ _ _ _ _ v wr => (v = .int .i64 0 ∨ v = .int .i64 1 ∨ v = .int .i64 2) ∧ Hid (Two W wr W.heap.size (W.heap.size + 1))) (fun _ _ _ _ _ _ _ v _ => 2 - (intOf v).toNat)
  case atStart =>
    refine ⟨.inl rfl, ⟨((Chg.refl _ _).alloc _).alloc _, ?_, ?_⟩⟩
    · exact ((Chg.refl (fun _ => False) _).alloc _).at (heap_alloc_new W _) (fun h => h)
    · exact (by simp : W.heap.size + 1 = (W.alloc _).heap.size) ▸ heap_alloc_new _ _
  case round =>
    obtain ⟨rfl | rfl | rfl, J⟩ := hrel
    · have D := hid (dead_nil wr)
      have c0 := J.out.c0
      go_wp2_with fail
      refine (load_dead D.out a).mono ?_
      rintro e w2 ⟨rfl, h2⟩
      have J := hid (J.out.not h2)
      have D := hid (dead_nil w2)
      clear h2
      go_wp2_with fail
      refine (byte_dead D.out a).mono ?_
      rintro e w' ⟨rfl, rfl⟩
      go_wp2_with fail
      refine (bytes_dead D.out a n).mono ?_
      rintro e w3 ⟨rfl, h2⟩
      have J := hid (J.out.not h2)
      have D := hid (dead_nil w3)
      clear h2
      go_wp2_with fail
      refine (ram_dead D.out).mono ?_
      rintro e w' ⟨rfl, rfl⟩
      go_wp2_with fail
      refine (store_dead D.out a 1).mono ?_
      rintro e w' ⟨rfl, rfl⟩
      go_wp2_with fail
      refine (setByte_dead D.out a 1).mono ?_
      rintro e w' ⟨rfl, rfl⟩
      go_wp2_with fail
      refine (move_dead D.out a a n).mono ?_
      rintro e w' ⟨rfl, rfl⟩
      go_wp2_with fail
      refine (fill_dead D.out a n 1).mono ?_
      rintro e w' ⟨rfl, rfl⟩
      go_wp2_with fail
      refine (show_dead D.out none 0 0).mono ?_
      rintro e w' ⟨rfl, rfl⟩
      go_wp2
      go_roundw
      case rel => exact ⟨.inr (.inl (by go_num)), J⟩
      case measure => simp [intOf]
    · have D := hid (dead_zero J.out.zero)
      have c1 := J.out.c1
      go_wp2_with fail
      refine (load_dead D.out a).mono ?_
      rintro e w2 ⟨rfl, h2⟩
      have J := hid (J.out.not h2)
      have D := hid (dead_zero J.out.zero)
      clear h2
      go_wp2_with fail
      refine (byte_dead D.out a).mono ?_
      rintro e w' ⟨rfl, rfl⟩
      go_wp2_with fail
      refine (bytes_dead D.out a n).mono ?_
      rintro e w3 ⟨rfl, h2⟩
      have J := hid (J.out.not h2)
      have D := hid (dead_zero J.out.zero)
      clear h2
      go_wp2_with fail
      refine (ram_dead D.out).mono ?_
      rintro e w' ⟨rfl, rfl⟩
      go_wp2_with fail
      refine (store_dead D.out a 1).mono ?_
      rintro e w' ⟨rfl, rfl⟩
      go_wp2_with fail
      refine (setByte_dead D.out a 1).mono ?_
      rintro e w' ⟨rfl, rfl⟩
      go_wp2_with fail
      refine (move_dead D.out a a n).mono ?_
      rintro e w' ⟨rfl, rfl⟩
      go_wp2_with fail
      refine (fill_dead D.out a n 1).mono ?_
      rintro e w' ⟨rfl, rfl⟩
      go_wp2_with fail
      refine (show_dead D.out none 0 0).mono ?_
      rintro e w' ⟨rfl, rfl⟩
      go_wp2
      go_roundw
      case rel => exact ⟨.inr (.inr (by go_num)), J⟩
      case measure => simp [intOf]
    · obtain ⟨N, hN⟩ : ∃ N : Nat, N = 65536 := ⟨_, rfl⟩
      obtain ⟨M, hM⟩ : ∃ M : Nat, M = 65537 := ⟨_, rfl⟩
      have hm1 : ∀ w : World, (Instr.makeSlice 22 (.int .i64 65536) (.int .i64 65536)).run Try.prog w = .ok (.slice (some ⟨w.heap.size, 0, none⟩) 65536 65536) (w.alloc (.cells (Array.replicate N (.int .u8 0)) 5)) := by rw [hN]; exact make_run 65536 (by decide)
      have hm2 : ∀ w : World, (Instr.makeSlice 22 (.int .i64 65537) (.int .i64 65537)).run Try.prog w = .ok (.slice (some ⟨w.heap.size, 0, none⟩) 65537 65537) (w.alloc (.cells (Array.replicate M (.int .u8 0)) 5)) := by rw [hM]; exact make_run 65537 (by decide)
      have HN := hid hN
      clear hN hM
      have C := hid J.out.chg
      go_wp2_with fail
      refine (new_yes _ 65536 _ 65536 65536 (List.replicate N 0) (by decide) (by decide) (by decide) (by decide) (by rw [List.length_replicate]; exact HN.out) (src_made wr N) (fun h => by cases h)).mono ?_
      rintro e w2 ⟨p2, g2, cr2, V2, cv2, rfl, -, h2⟩
      have C := hid ((C.out.not ((Chg.refl _ _).alloc _)).not h2)
      clear h2
      go_wp2_with fail
      refine (new_no _ 65540 none 0 0 (by decide) (by decide) (by decide)).mono ?_
      rintro e w' ⟨rfl, rfl⟩
      go_wp2_with fail
      refine (new_no _ 4 _ 65537 65537 (by decide) (by decide) (by decide)).mono ?_
      rintro e w' ⟨rfl, rfl⟩
      have C := hid (C.out.not ((Chg.refl _ _).alloc (.cells (Array.replicate M (.int .u8 0)) 5)))
      go_wp2_with fail
      refine (awake_any _).mono ?_
      rintro e w4 ⟨rfl, h4⟩
      have C := hid (C.out.not h4)
      clear h4
      go_wp2
      go_ret
      exact ⟨rfl, C.out⟩
end Go.Proofs.Ytpainiehceniiaa
