/- record: pair and own. -/
import Derived.Test.YtjdojckemphadaaRcA
namespace Go.Proofs.Ytjdojckemphadaa
open Go Go.RowKit

theorem wordsArr : Try.prog.underlying 69 = some (.array (Try.prog.arrayLen 69) (Try.prog.elem 69)) := by kernel_rfl
theorem rc_slice (b k : Nat) (w : World) (hk : k ≤ 10) : (Instr.sliceAt 69 (.pointer (some ⟨b, 0, none⟩)) (some (.int .i64 (2 + 2 * (k : Int)))) (some (.int .i64 (2 + 2 * (k : Int) + 2))) (some (.int .i64 (2 + 2 * (k : Int) + 2)))).run Try.prog w =
    .ok (.slice (some ⟨b, 2 * k + 2, none⟩) 2 2) w := by
  have hl : Try.prog.arrayLen 69 = 24 := by kernel_rfl
  have hs : (sizeOf (Try.prog.elem 69)).run Try.prog w = .ok 1 w := by kernel_rfl
  rw [run_sliceAt_array_lhm (P := Try.prog) (w := w) (t := 69) (a := ⟨b, 0, none⟩) (ht := wordsArr) .i64 .i64 .i64 _ _ _ (by omega) (by omega) (by omega) (by rw [hl]; omega), hs]
  simp only [Result.andThen_ok]
  rw [show (2 + 2 * (k : Int)).toNat = 2 * k + 2 from by omega, show (2 + 2 * (k : Int) + 2).toNat = 2 * k + 4 from by omega]
  unfold slicedAt
  rw [if_neg (by omega), show 2 * k + 4 - (2 * k + 2) = 2 from by omega]
  unfold Addr.add
  rw [if_neg (by omega)]
  simp

set_option maxHeartbeats 400000 in
theorem rc_pair (b : Nat) (k : Nat) (w : World) (hk : k ≤ 10) :
    Calls Try.prog 34 #[.pointer (some ⟨b, 0, none⟩), .int .i64 k] w fun e w' => e = .returned (.slice (some ⟨b, 2 * k + 2, none⟩) 2 2) ∧ w = w' := by
  have hsl := fun w => rc_slice b k w hk
  go_enter Try.func34, Try.ntmps34
  go_wp2
  go_ret
  exact ⟨rfl, rfl⟩

set_option maxHeartbeats 400000 in
theorem rc_own (b : Nat) (F : Nat → Int) (e0 : TypeId) (f0 : Nat × Nat) (w : World) (h : w.heap[b]? = some (.cells (arrF 24 F) e0 f0)) :
    Calls Try.prog 35 #[.pointer (some ⟨b, 0, none⟩)] w fun e w' => e = .returned (.int .u64 (mixN sum0 (fun i => F (i + 1)) 23)) ∧ Ext [] w w' := by
  have H := Lib.hid (sm_of b 1 23 23 (fun i => F (i + 1)) w (fun i hi => by rw [show 1 + i = i + 1 from by omega]; exact cell_of h (arrF_get 24 F (i + 1) (by omega))) (lt_of_block h) (by omega))
  clear h
  go_enter Try.func35, Try.ntmps35
  go_wp2_with (go_at_call 43; refine H.out.mono ?_; rintro e W1 ⟨rfl, hE1⟩)
  go_ret
  exact ⟨rfl, hE1⟩
end Go.Proofs.Ytjdojckemphadaa
