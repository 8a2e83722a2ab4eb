/- New. -/
import Derived.Test.YtpainiehceniiaaE
namespace Go.Proofs.Ytpainiehceniiaa
open Go.RowKit Go.Proofs.YtpainiehceniiaaW.PrintWords Go.Proofs.YtpainiehceniiaaW.PrintMore
set_option linter.unusedVariables false
attribute [local go_sem ↓] Go.wp_at_zero Go.wp_at_succ

theorem make_run (n : Nat) (hn : n ≤ 100000) (w : World) : (Instr.makeSlice 22 (.int .i64 (n : Int)) (.int .i64 (n : Int))).run Try.prog w = .ok (.slice (some ⟨w.heap.size, 0, none⟩) n n) (w.alloc (.cells (Array.replicate n (.int .u8 0)) 5)) := by
  obtain ⟨i0, hi, hzz⟩ := Option.map_eq_some_iff.1 info5
  simp only [Prod.mk.injEq] at hzz
  obtain ⟨hz0, hz1, hz2⟩ := hzz
  rw [run_make w 22 5 i0 (.int .u8 0) Try.underlying22 hi hz0 .i64 .i64 n n (by omega) (by omega) (by rw [hz2]; omega) (by omega), hz1]
  have : madeCells (Value.int .u8 0).cells (((n : Int)).toNat * 1) = Array.replicate n (.int .u8 0) := by
    rw [Int.toNat_natCast, Nat.mul_one]
    simp [madeCells, Value.cells]
    apply Array.ext
    · simp
    · intros; simp [Nat.mod_one]
  rw [this]
  rfl
theorem mm_new {B B' : Nat} {w2 : World} {g n k cv : Nat} {V : Option Addr} {ys : List Int} (hg : w2.heap[g]? = some (.cells (Array.replicate n (.int .u8 0)) 5 (0, 0))) (hB : B ≤ g) (hV : w2.ownsRow B' 5 1 (.slice V k cv) k (ys.map (Value.int .u8))) (hB' : B ≤ B') (hne : (Value.slice V k cv).ownBlock ≠ some g) (hn : 4 ≤ n ∧ n ≤ 65536) (hk : k ≤ 65536) :
    Mm B (w2.alloc (.cells #[.slice (some ⟨g, 0, none⟩) n n, .slice V k cv] 50)) w2.heap.size g n V cv ⟨List.replicate n 0, ys⟩ := by
  have hl : ys.length = k := by simpa using hV.1
  have hr : w2.ownsRow B 5 1 (.slice (some ⟨g, 0, none⟩) n n) n ((List.replicate n 0).map (Value.int .u8)) := by
    refine ⟨by simp, .inr ⟨g, n, _, rfl, hB, hg, Nat.le_refl _, by simp [maxLen]; omega, by simp, ?_⟩⟩
    simp
  have hbl := heap_lt hg
  refine ⟨by omega, ?_, ?_, ?_, ?_, ?_, ?_⟩
  · rw [heap_alloc_new]
    show _ = some (Obj.cells #[.slice _ (List.replicate n (0 : Int)).length n, .slice V ys.length cv] 50 (0, 0))
    rw [List.length_replicate, hl]
  · show World.ownsRow _ B 5 1 (.slice _ (List.replicate n (0 : Int)).length n) (List.replicate n (0 : Int)).length _
    rw [List.length_replicate]
    exact World.ownsRow.alloc hr _
  · show World.ownsRow _ B 5 1 (.slice V ys.length cv) ys.length _
    rw [hl]
    exact World.ownsRow.alloc (hV.mono hB') _
  · rw [own_block V 0 0 k cv]; exact hne
  · show 4 ≤ (List.replicate n (0 : Int)).length ∧ _
    rw [List.length_replicate]; exact hn
  · show ys.length ≤ 65536; omega

theorem new_no (W : World) (n : Int) (X : Option Addr) (k c : Nat) (hk : k ≤ 2 ^ 47) (h : n < 4 ∨ 65536 < n ∨ n % 4 ≠ 0 ∨ 65536 < k) (hn : -9223372036854775808 ≤ n) :
    Calls Try.prog 9 #[.int .i64 n, .slice X k c] W fun e W' => e = .returned (.tuple #[.pointer none, .int .i64 2]) ∧ W = W' := by
  go_enter Try.func9, Try.ntmps9
  go_wp2
  all_goals first | (exfalso; omega) | (go_ret2; exact ⟨rfl, rfl⟩)
set_option maxHeartbeats 1000000 in
theorem new_yes (W : World) (n : Nat) (X : Option Addr) (k c : Nat) (ys : List Int) (h4 : 4 ≤ n) (hn : n ≤ 65536) (hm : n % 4 = 0) (hk : k ≤ 65536) (hl : ys.length = k) (hs : Src W X ys) (hc : X = none → c = 0) :
    Calls Try.prog 9 #[.int .i64 n, .slice X k c] W fun e W' => ∃ p g cr V cv, e = .returned (.tuple #[ptr p, .int .i64 0]) ∧ Mm W.heap.size W' p g cr V cv ⟨List.replicate n 0, ys⟩ ∧ Chg Not W W' := by
  have HS := hid hs
  have HC := hid hc
  clear hs hc
  have b1 : (n : Int) % 4 = 0 := by omega
  have b2 : ¬ 65536 < (n : Int) := by omega
  have b3 : ¬ (n : Int) < 4 := by omega
  have b4 : ¬ 65536 < (k : Int) := by omega
  have hmk := make_run n (by omega)
  go_enter Try.func9, Try.ntmps9
  go_wp2
  all_goals first | (exfalso; omega) | skip
  go_region_with (go_at_call 24; refine (clone_any (HS.out.not (by first | exact (Chg.refl _ _).drew | exact (Chg.refl _ _).drew.alloc _)) hl (by omega) HC.out).mono ?_; rintro e w2 ⟨V, cv, rfl, ho, -, hch⟩; have ho := hid ho; have hch := hid hch)
  · have hg : w2.heap[W.heap.size]? = some (.cells (Array.replicate n (.int .u8 0)) 5 (0, 0)) := hch.out.at (heap_alloc_new W.drew _) (fun h => h)
    have hne : (Value.slice V k cv).ownBlock ≠ some W.heap.size := fun hk => by
      have := (row_lt ho.out hk).1
      simp at this; omega
    have HE := hid (mm_new (B := W.heap.size) hg (Nat.le_refl _) ho.out (by simp) hne ⟨h4, hn⟩ hk)
    have HF := hid ((((Chg.refl Not W).drew.alloc (.cells (Array.replicate n (.int .u8 0)) 5)).not hch.out).alloc (.cells #[.slice (some ⟨W.heap.size, 0, none⟩) n n, .slice V k cv] 50))
    clear hg hne ho hch
    go_wp2
    go_ret2
    exact ⟨_, _, _, _, _, rfl, HE.out, HF.out⟩
  · have hg : (w2.alloc (.cells (Array.replicate n (.int .u8 0)) 5)).heap[w2.heap.size]? = some (.cells (Array.replicate n (.int .u8 0)) 5 (0, 0)) := heap_alloc_new w2 _
    have hne : (Value.slice V k cv).ownBlock ≠ some w2.heap.size := fun hk => by
      have := (row_lt ho.out hk).2
      omega
    have hs2 : W.heap.size ≤ w2.heap.size := hch.out.size
    have HE := hid (mm_new (B := W.heap.size) hg hs2 (World.ownsRow.alloc ho.out _) (by simp) hne ⟨h4, hn⟩ hk)
    have HF := hid ((((Chg.refl Not W).drew.not hch.out).alloc (.cells (Array.replicate n (.int .u8 0)) 5)).alloc (.cells #[.slice (some ⟨w2.heap.size, 0, none⟩) n n, .slice V k cv] 50))
    have e1 : (w2.alloc (.cells (Array.replicate n (.int .u8 0)) 5)).heap.size = w2.heap.size + 1 := by simp
    rw [e1] at HE
    clear hg hne ho hch
    go_wp2
    go_ret2
    exact ⟨_, _, _, _, _, rfl, HE.out, HF.out⟩
end Go.Proofs.Ytpainiehceniiaa
