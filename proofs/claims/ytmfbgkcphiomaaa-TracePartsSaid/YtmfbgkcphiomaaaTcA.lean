/- Package trace: which touches may be, which lists (Check); the document's own (Right, Check, Same). -/
import Derived.Test.YtmfbgkcphiomaaaTdR
namespace Go.Proofs.Ytmfbgkcphiomaaa
open Go Go.RowKit Go.Shelf
attribute [local go_sem] Oper.semAt_some

set_option maxRecDepth 100000 in
set_option maxHeartbeats 800000 in
theorem tc_bound (k a x : Int) (w : World) : Calls Try.prog 51 #[.agg #[.int .i64 k, .int .i64 a, .int .u64 x]] w fun e w' => e = .returned (.tuple #[.int .i64 (bndT k).1, .bool (bndT k).2]) ∧ Ext [] w w' := by
  by_cases h1 : k = 1
  · subst h1
    go_enter Try.func51, Try.ntmps51
    go_wp2
    go_ret2
    exact ⟨rfl, (Ext.refl _ _).alloc _⟩
  by_cases h2 : k = 2
  · subst h2
    go_enter Try.func51, Try.ntmps51
    go_wp2
    go_ret2
    exact ⟨rfl, (Ext.refl _ _).alloc _⟩
  by_cases h3 : k = 3
  · subst h3
    go_enter Try.func51, Try.ntmps51
    go_wp2
    go_ret2
    exact ⟨rfl, (Ext.refl _ _).alloc _⟩
  by_cases h4 : k = 4
  · subst h4
    go_enter Try.func51, Try.ntmps51
    go_wp2
    go_ret2
    exact ⟨rfl, (Ext.refl _ _).alloc _⟩
  have hb : bndT k = (0, false) := by unfold bndT; rw [if_neg (by omega), if_neg h3, if_neg h4]
  rw [hb]
  have g1 : (k == 1) = false := by simpa using h1
  have g2 : (k == 2) = false := by simpa using h2
  have g3 : (k == 3) = false := by simpa using h3
  have g4 : (k == 4) = false := by simpa using h4
  clear h1 h2 h3 h4 hb
  go_enter Try.func51, Try.ntmps51
  go_wp2
  go_ret2
  exact ⟨rfl, (Ext.refl _ _).alloc _⟩

set_option maxRecDepth 100000 in
set_option maxHeartbeats 1600000 in
theorem tc_right (k a x : Int) (w : World) : Calls Try.prog 39 #[.agg #[.int .i64 k, .int .i64 a, .int .u64 x]] w fun e w' => e = .returned (.bool (Tch.right ⟨k, a, x⟩)) ∧ Ext [] w w' := by
  obtain ⟨u, hu⟩ : ∃ u, (bndT k).1 = u := ⟨_, rfl⟩
  obtain ⟨b, hb⟩ : ∃ b, (bndT k).2 = b := ⟨_, rfl⟩
  have hr : Tch.right ⟨k, a, x⟩ = (decide (0 ≤ a) && decide (a < u) && (b || x == 0)) := by unfold Tch.right; rw [hu, hb]
  rw [hr]
  have HB := Lib.hid (tc_bound k a x (w.alloc (.cells #[.int .i64 k, .int .i64 a, .int .u64 x] 70)))
  rw [hu, hb] at HB
  clear hu hb hr
  obtain ⟨w0, hw0⟩ : ∃ w0, w.alloc (.cells #[.int .i64 k, .int .i64 a, .int .u64 x] 70) = w0 := ⟨_, rfl⟩
  have hb0 : w0.heap[w.heap.size]? = some (.cells #[.int .i64 k, .int .i64 a, .int .u64 x] 70 (0, 0)) := by rw [← hw0]; exact World.alloc_heap_new _ _
  have H0 : Hid (Ext [] w w0) := by rw [← hw0]; exact (Ext.refl _ _).alloc _
  rw [hw0] at HB
  have HH := Lib.hid hb0
  have k0 := cell_of (j := 0) (v := .int .i64 k) hb0 rfl
  have k1 := cell_of (j := 1) (v := .int .i64 a) hb0 rfl
  have k2 := cell_of (j := 2) (v := .int .u64 x) hb0 rfl
  clear hb0
  obtain ⟨A, g0⟩ : ∃ A, decide (0 ≤ a) = A := ⟨_, rfl⟩
  obtain ⟨B, g1⟩ : ∃ B, decide (a < u) = B := ⟨_, rfl⟩
  obtain ⟨C, g2⟩ : ∃ C, (x == 0) = C := ⟨_, rfl⟩
  rw [g0, g1, g2]
  cases A <;> cases B <;> cases b <;> cases C
  all_goals
    go_enter Try.func39, Try.ntmps39
    go_wp2_with fail
    refine HB.out.mono ?_
    rintro e w1 ⟨rfl, hE1⟩
    have H1 := Lib.hid (H0.out.trans hE1)
    have hb1 := hE1.at HH.out (by simp)
    have m0 := cell_of (j := 0) (v := .int .i64 k) hb1 rfl
    have m1 := cell_of (j := 1) (v := .int .i64 a) hb1 rfl
    have m2 := cell_of (j := 2) (v := .int .u64 x) hb1 rfl
    clear hE1 hb1 k0 k1 k2
    go_wp2
    go_ret
    exact ⟨rfl, H1.out⟩
end Go.Proofs.Ytmfbgkcphiomaaa
