/- The clock in memory; Clock.pinned and the questions of Pin and Unpin. -/
import Derived.Test.YtgpoplnfhlfogaaEpA
import Derived.StillTailTactics
namespace Go.Proofs.Ytgpoplnfhlfogaa
open Go Go.RowKit

/-- A clock at block c, its pins in the map at block m. -/
def Clk (w : World) (c m : Nat) (now : Int) (l : Ents) : Prop :=
  w.heap[c]? = some (.cells #[.int .i64 now, .map (some m)] 98 (0, 0)) ∧ IMap w m l
theorem Clk.ext {k : List Nat} {w w' : World} {c m : Nat} {now : Int} {l : Ents} (h : Clk w c m now l) (he : Ext k w w') (hc : c ∉ k) (hm : m ∉ k) : Clk w' c m now l := ⟨he.at h.1 hc, h.2.ext he hm⟩
theorem Clk.c0 {w : World} {c m : Nat} {now : Int} {l : Ents} (h : Clk w c m now l) : w.cell? ⟨c, 0, none⟩ = some (.int .i64 now) := cell_of h.1 rfl
theorem Clk.c1 {w : World} {c m : Nat} {now : Int} {l : Ents} (h : Clk w c m now l) : w.cell? ⟨c, 1, none⟩ = some (.map (some m)) := cell_of h.1 rfl
theorem Clk.fz {w : World} {c m : Nat} {now : Int} {l : Ents} (h : Clk w c m now l) (j : Nat) : w.frozen? ⟨c, j, none⟩ = false := free_of h.1 j
theorem Clk.ne {w : World} {c m : Nat} {now : Int} {l : Ents} (h : Clk w c m now l) : m ≠ c := h.2.notcell h.c0

theorem zeroI (w : World) : (zeroValue 3).run Try.prog w = .ok (.int .i64 0) w := by kernel_rfl

set_option maxHeartbeats 400000 in
theorem ep_pinned (c m : Nat) (now : Int) (l : Ents) (t : Int) (w : World) (h : Clk w c m now l) :
    Calls Try.prog 64 #[.pointer (some ⟨c, 0, none⟩), .int .i64 t] w fun e w' => e = .returned (.bool (look l t).isSome) ∧ w = w' := by
  have h1 := h.c1
  have hl := run_look_ok (P := Try.prog) 42 3 3 (.int .i64 0) Try.underlying42 Try.underlying3 (zeroI w) h.2 t
  go_enter Try.func64, Try.ntmps64
  go_wp2
  go_ret
  exact ⟨rfl, rfl⟩

set_option maxHeartbeats 400000 in
theorem ep_pin1 (c m : Nat) (now : Int) (l : Ents) (t : Int) (bc bt : Nat) (w : World) (h : Clk w c m now l) (h1 : w.cell? ⟨bc, 0, none⟩ = some (.pointer (some ⟨c, 0, none⟩))) (h2 : w.cell? ⟨bt, 0, none⟩ = some (.int .i64 t)) :
    Calls Try.prog 63 #[.pointer (some ⟨bc, 0, none⟩), .pointer (some ⟨bt, 0, none⟩)] w fun e w' => e = .returned (.bool (look l t).isSome) ∧ w = w' := by
  have H := Lib.hid (ep_pinned c m now l t w h)
  go_enter Try.func63, Try.ntmps63
  go_wp2_with (go_at_call 64; refine H.out.mono ?_; rintro e w' ⟨rfl, rfl⟩)
  go_ret
  exact ⟨rfl, rfl⟩
set_option maxHeartbeats 400000 in
theorem ep_unpin1 (c m : Nat) (now : Int) (l : Ents) (t : Int) (bc bt : Nat) (w : World) (h : Clk w c m now l) (h1 : w.cell? ⟨bc, 0, none⟩ = some (.pointer (some ⟨c, 0, none⟩))) (h2 : w.cell? ⟨bt, 0, none⟩ = some (.int .i64 t)) :
    Calls Try.prog 65 #[.pointer (some ⟨bc, 0, none⟩), .pointer (some ⟨bt, 0, none⟩)] w fun e w' => e = .returned (.bool (look l t).isNone) ∧ w = w' := by
  have H := Lib.hid (ep_pinned c m now l t w h)
  go_enter Try.func65, Try.ntmps65
  go_wp2_with (go_at_call 64; refine H.out.mono ?_; rintro e w' ⟨rfl, rfl⟩)
  go_ret
  exact ⟨rfl, rfl⟩
end Go.Proofs.Ytgpoplnfhlfogaa
