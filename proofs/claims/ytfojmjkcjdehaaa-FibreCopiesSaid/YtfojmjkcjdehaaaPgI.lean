/- Package pmem: Flush, Evict (printed by genop.py) Package pmem: the calls of a device, at any address. Package pmem: State. -/
import Derived.Test.YtfojmjkcjdehaaaPgA
import Derived.Test.YtfojmjkcjdehaaaPgB
import Derived.Test.YtfojmjkcjdehaaaPgC
import Derived.Test.YtfojmjkcjdehaaaPgE
import Derived.Deep.RegionHeld3
import Derived.RegionTactic
import Derived.Deep.CutRange
namespace Go.Proofs.Ytfojmjkcjdehaaa
open Go Go.RowKit Go.Shelf
attribute [local go_sem] Oper.semAt_some

set_option maxRecDepth 100000 in
set_option maxHeartbeats 2000000 in
theorem pm_Flush_in (d lb sb a : Nat) (D : Dv) (w : World) (hD : DevAt w d lb sb D) (hn : DvOk D) (ha : a < D.n) :
    Calls Try.prog 22 #[.pointer (some ⟨d, 0, none⟩), .int .i64 (a : Int)] w fun e w' => e = .returned (.int .i64 0) ∧ DevPost [d] w d lb sb (D.flush a).1 w' := by
  obtain ⟨W0, hw0⟩ : ∃ W0, (w.alloc (.cells #[.pointer (some ⟨d, 0, none⟩)] 26)).alloc (.cells #[.int .i64 (a : Int)] 3) = W0 := ⟨_, rfl⟩
  have hE0 : Ext [] w W0 := by rw [← hw0]; exact ((Ext.refl _ _).alloc _).alloc _
  obtain ⟨hb0, hb1, hs0⟩ := al2_heap (w := w) #[.pointer (some ⟨d, 0, none⟩)] #[.int .i64 (a : Int)] 26 3
  rw [hw0] at hb0 hb1 hs0
  have k0 := cell_of (j := 0) (v := .pointer (some ⟨d, 0, none⟩)) hb0 rfl
  have k1 := cell_of (j := 0) (v := .int .i64 (a : Int)) hb1 rfl
  have HN := Lib.hid (fun W (hE : Ext [] W0 W) => pm_none d lb sb D W ((hD.ext0 hE0).ext0 hE))
  have hO0 : Own2 W0 w.heap.size (w.heap.size + 1) (.pointer (some ⟨d, 0, none⟩)) (a : Int) := ⟨hb0, hb1⟩
  have hh : D.line (a : Int) = true := by unfold Dv.line; simp; omega
  have HA := Lib.hid (fun W b1 b2 (hE : Ext [] W0 W) (hO : Own2 W b1 b2 (.pointer (some ⟨d, 0, none⟩)) (a : Int)) => pm_line1 b1 b2 d lb sb (a : Int) D W ((hD.ext0 hE0).ext0 hE) hO)
  rw [hh] at HA
  have HT : Hid (∀ W, Ext [] W0 W → Calls Try.prog 69 #[.pointer (some ⟨w.heap.size, 0, none⟩), .pointer (some ⟨w.heap.size + 1, 0, none⟩)] W fun e w' => ∃ x, e = .returned x ∧ x = .int .i64 a ∧ DevPost [d] W d lb sb (D.flush a).1 w') := fun W hE => (pm_flush1 w.heap.size (w.heap.size + 1) d lb sb a D W ((hD.ext0 hE0).ext0 hE) hn (hO0.ext hE (by simp) (by simp)) ha).mono fun _ _ h => ⟨_, h.1, rfl, h.2⟩
  have hlt := hD.lt
  have HZ := Lib.hid (And.intro hE0 (And.intro hlt hs0))
  clear hD hn ha hh hO0 hE0 hlt hs0 hb0 hb1
  go_enter Try.func22, Try.ntmps22
  go_wp2
  clear hw0
  go_region_held3 (fun w' => w'.cell? ⟨w.heap.size, 0, none⟩ = some (.pointer (some ⟨d, 0, none⟩)) ∧ w'.cell? ⟨w.heap.size + 1, 0, none⟩ = some (.int .i64 (a : Int)))
    (first
      | (go_keep; done)
      | exact ⟨hX1.cell k0 (by simp), hX1.cell k1 (by simp)⟩
      | exact ⟨hX2.cell k0 (by simp), hX2.cell k1 (by simp)⟩
      | exact ⟨hX5.cell k0 (by have := HZ.out.2.1; simp; try omega), hX5.cell k1 (by have := HZ.out.2.1; simp; try omega)⟩)
    ((first
      | (go_at_call 64; refine (pm_is _ _).mono ?_; rintro e w1 ⟨rfl, hE1⟩; have hX1 : Ext [] W0 w1 := (by first | exact (Ext.refl [] W0).drew.trans hE1 | exact hX2.trans hE1))
      | (go_at_call 71; refine (pm_line _ _ _).mono ?_; rintro e w2 ⟨rfl, hE2, hO2⟩; have hX2 : Ext [] W0 w2 := (by first | exact (Ext.refl [] W0).drew.trans hE2 | exact hX1.trans hE2))
      | (go_at_call 68
         refine (asked2_int_ok 69 #[.pointer (some ⟨w.heap.size, 0, none⟩), .pointer (some ⟨w.heap.size + 1, 0, none⟩)] _ _ _ _ _ _ (0, 0) (World.alloc_heap_new _ _) ?_ (enters_of Try.func110 (by kernel_rfl) rfl _) ?_ (enters_of Try.func69 (by kernel_rfl) rfl _) (fun W x w' => x = .int .i64 a ∧ DevPost [d] W d lb sb (D.flush a).1 w') ?_).mono ?_
         · (intro W hE; exact HN.out W (Ext.trans (by first | exact (hX1.trans hE2).alloc _ | exact (hX2.trans hE1).alloc _) hE))
         · (intro W hE; exact HA.out W _ _ (Ext.trans (by first | exact (hX1.trans hE2).alloc _ | exact (hX2.trans hE1).alloc _) hE) (Own2.ext (by first | exact hO2.ext ((Ext.refl [] w2).alloc _) (by simp) (by simp) | exact hO2.ext (hE1.alloc _) (by simp) (by simp)) hE (by simp) (by simp)))
         · (intro W hE; exact HT.out W (Ext.trans (by first | exact (hX1.trans hE2).alloc _ | exact (hX2.trans hE1).alloc _) hE))
         rintro e w5 ⟨x, W5, rfl, hE5, rfl, hP5⟩
         have hX5 : Ext [d] W0 w5 := (Ext.wide (Ext.trans (by first | exact (hX1.trans hE2).alloc _ | exact (hX2.trans hE1).alloc _) hE5)).trans hP5.2)))
  all_goals go_wp2
  all_goals go_ret
  all_goals exact ⟨rfl, hP5.1, HZ.out.1.wide.trans hX5⟩

set_option maxRecDepth 100000 in
set_option maxHeartbeats 2000000 in
theorem pm_Flush_out (d lb sb : Nat) (k : Int) (D : Dv) (w : World) (hD : DevAt w d lb sb D) (_hn : DvOk D) (ha : k < 0 ∨ (D.n : Int) ≤ k) :
    Calls Try.prog 22 #[.pointer (some ⟨d, 0, none⟩), .int .i64 k] w fun e w' => e = .returned (.int .i64 4) ∧ Ext [] w w' := by
  obtain ⟨W0, hw0⟩ : ∃ W0, (w.alloc (.cells #[.pointer (some ⟨d, 0, none⟩)] 26)).alloc (.cells #[.int .i64 k] 3) = W0 := ⟨_, rfl⟩
  have hE0 : Ext [] w W0 := by rw [← hw0]; exact ((Ext.refl _ _).alloc _).alloc _
  obtain ⟨hb0, hb1, hs0⟩ := al2_heap (w := w) #[.pointer (some ⟨d, 0, none⟩)] #[.int .i64 k] 26 3
  rw [hw0] at hb0 hb1 hs0
  have k0 := cell_of (j := 0) (v := .pointer (some ⟨d, 0, none⟩)) hb0 rfl
  have k1 := cell_of (j := 0) (v := .int .i64 k) hb1 rfl
  have HN := Lib.hid (fun W (hE : Ext [] W0 W) => pm_none d lb sb D W ((hD.ext0 hE0).ext0 hE))
  have hO0 : Own2 W0 w.heap.size (w.heap.size + 1) (.pointer (some ⟨d, 0, none⟩)) k := ⟨hb0, hb1⟩
  have hh : D.line k = false := by unfold Dv.line; simp; omega
  have HA := Lib.hid (fun W b1 b2 (hE : Ext [] W0 W) (hO : Own2 W b1 b2 (.pointer (some ⟨d, 0, none⟩)) k) => pm_line1 b1 b2 d lb sb k D W ((hD.ext0 hE0).ext0 hE) hO)
  rw [hh] at HA
  have hlt := hD.lt
  have HZ := Lib.hid (And.intro hE0 (And.intro hlt hs0))
  clear hD _hn ha hh hO0 hE0 hlt hs0 hb0 hb1
  go_enter Try.func22, Try.ntmps22
  go_wp2
  clear hw0
  go_region_held3 (fun w' => w'.cell? ⟨w.heap.size, 0, none⟩ = some (.pointer (some ⟨d, 0, none⟩)) ∧ w'.cell? ⟨w.heap.size + 1, 0, none⟩ = some (.int .i64 k))
    (first
      | (go_keep; done)
      | exact ⟨hX1.cell k0 (by simp), hX1.cell k1 (by simp)⟩
      | exact ⟨hX2.cell k0 (by simp), hX2.cell k1 (by simp)⟩
      | exact ⟨hX5.cell k0 (by simp), hX5.cell k1 (by simp)⟩)
    ((first
      | (go_at_call 64; refine (pm_is _ _).mono ?_; rintro e w1 ⟨rfl, hE1⟩; have hX1 : Ext [] W0 w1 := (by first | exact (Ext.refl [] W0).drew.trans hE1 | exact hX2.trans hE1))
      | (go_at_call 71; refine (pm_line _ _ _).mono ?_; rintro e w2 ⟨rfl, hE2, hO2⟩; have hX2 : Ext [] W0 w2 := (by first | exact (Ext.refl [] W0).drew.trans hE2 | exact hX1.trans hE2))
      | (go_at_call 68
         refine (asked2_int_bad 69 #[.pointer (some ⟨w.heap.size, 0, none⟩), .pointer (some ⟨w.heap.size + 1, 0, none⟩)] _ _ _ _ _ _ (0, 0) (World.alloc_heap_new _ _) ?_ (enters_of Try.func110 (by kernel_rfl) rfl _) ?_).mono ?_
         · (intro W hE; exact HN.out W (Ext.trans (by first | exact (hX1.trans hE2).alloc _ | exact (hX2.trans hE1).alloc _) hE))
         · (intro W hE; exact HA.out W _ _ (Ext.trans (by first | exact (hX1.trans hE2).alloc _ | exact (hX2.trans hE1).alloc _) hE) (Own2.ext (by first | exact hO2.ext ((Ext.refl [] w2).alloc _) (by simp) (by simp) | exact hO2.ext (hE1.alloc _) (by simp) (by simp)) hE (by simp) (by simp)))
         rintro e w5 ⟨rfl, hE5⟩
         have hX5 : Ext [] W0 w5 := Ext.trans (by first | exact (hX1.trans hE2).alloc _ | exact (hX2.trans hE1).alloc _) hE5)))
  all_goals go_wp2
  all_goals go_ret
  all_goals exact ⟨rfl, HZ.out.1.trans hX5⟩

set_option maxRecDepth 100000 in
set_option maxHeartbeats 2000000 in
theorem pm_Flush_none (bo : Option Addr) (k : Int) (w : World) (hD : NoneD w (.pointer bo)) :
    Calls Try.prog 22 #[.pointer bo, .int .i64 k] w fun e w' => e = .returned (.int .i64 1) ∧ Ext [] w w' := by
  obtain ⟨W0, hw0⟩ : ∃ W0, (w.alloc (.cells #[.pointer bo] 26)).alloc (.cells #[.int .i64 k] 3) = W0 := ⟨_, rfl⟩
  have hE0 : Ext [] w W0 := by rw [← hw0]; exact ((Ext.refl _ _).alloc _).alloc _
  obtain ⟨hb0, hb1, hs0⟩ := al2_heap (w := w) #[.pointer bo] #[.int .i64 k] 26 3
  rw [hw0] at hb0 hb1 hs0
  have k0 := cell_of (j := 0) (v := .pointer bo) hb0 rfl
  have k1 := cell_of (j := 0) (v := .int .i64 k) hb1 rfl
  have HN := Lib.hid (fun W (hE : Ext [] W0 W) => pm_isnone _ W ((hD.ext hE0).ext hE))
  have HZ := Lib.hid hE0
  clear hD hE0 hs0 hb0 hb1
  go_enter Try.func22, Try.ntmps22
  go_wp2
  clear hw0
  go_region_held3 (fun w' => w'.cell? ⟨w.heap.size, 0, none⟩ = some (.pointer bo) ∧ w'.cell? ⟨w.heap.size + 1, 0, none⟩ = some (.int .i64 k))
    (first
      | (go_keep; done)
      | exact ⟨hX1.cell k0 (by simp), hX1.cell k1 (by simp)⟩
      | exact ⟨hX2.cell k0 (by simp), hX2.cell k1 (by simp)⟩
      | exact ⟨hX5.cell k0 (by simp), hX5.cell k1 (by simp)⟩)
    ((first
      | (go_at_call 64; refine (pm_is _ _).mono ?_; rintro e w1 ⟨rfl, hE1⟩; have hX1 : Ext [] W0 w1 := (by first | exact (Ext.refl [] W0).drew.trans hE1 | exact hX2.trans hE1))
      | (go_at_call 71; refine (pm_line _ _ _).mono ?_; rintro e w2 ⟨rfl, hE2, hO2⟩; have hX2 : Ext [] W0 w2 := (by first | exact (Ext.refl [] W0).drew.trans hE2 | exact hX1.trans hE2))
      | (go_at_call 68
         refine (asked2_int_nil 69 #[.pointer (some ⟨w.heap.size, 0, none⟩), .pointer (some ⟨w.heap.size + 1, 0, none⟩)] _ _ _ _ _ _ (0, 0) (World.alloc_heap_new _ _) ?_).mono ?_
         · (intro W hE; exact HN.out W (Ext.trans (by first | exact (hX1.trans hE2).alloc _ | exact (hX2.trans hE1).alloc _) hE))
         rintro e w5 ⟨rfl, hE5⟩
         have hX5 : Ext [] W0 w5 := Ext.trans (by first | exact (hX1.trans hE2).alloc _ | exact (hX2.trans hE1).alloc _) hE5)))
  all_goals go_wp2
  all_goals go_ret
  all_goals exact ⟨rfl, HZ.out.trans hX5⟩

set_option maxRecDepth 100000 in
set_option maxHeartbeats 2000000 in
theorem pm_Evict_in (d lb sb a : Nat) (D : Dv) (w : World) (hD : DevAt w d lb sb D) (hn : DvOk D) (ha : a < D.n) :
    Calls Try.prog 31 #[.pointer (some ⟨d, 0, none⟩), .int .i64 (a : Int)] w fun e w' => e = .returned (.int .i64 0) ∧ DevPost [d, sb] w d lb sb (D.evict a).1 w' := by
  obtain ⟨W0, hw0⟩ : ∃ W0, (w.alloc (.cells #[.pointer (some ⟨d, 0, none⟩)] 26)).alloc (.cells #[.int .i64 (a : Int)] 3) = W0 := ⟨_, rfl⟩
  have hE0 : Ext [] w W0 := by rw [← hw0]; exact ((Ext.refl _ _).alloc _).alloc _
  obtain ⟨hb0, hb1, hs0⟩ := al2_heap (w := w) #[.pointer (some ⟨d, 0, none⟩)] #[.int .i64 (a : Int)] 26 3
  rw [hw0] at hb0 hb1 hs0
  have k0 := cell_of (j := 0) (v := .pointer (some ⟨d, 0, none⟩)) hb0 rfl
  have k1 := cell_of (j := 0) (v := .int .i64 (a : Int)) hb1 rfl
  have HN := Lib.hid (fun W (hE : Ext [] W0 W) => pm_none d lb sb D W ((hD.ext0 hE0).ext0 hE))
  have hO0 : Own2 W0 w.heap.size (w.heap.size + 1) (.pointer (some ⟨d, 0, none⟩)) (a : Int) := ⟨hb0, hb1⟩
  have hh : D.line (a : Int) = true := by unfold Dv.line; simp; omega
  have HA := Lib.hid (fun W b1 b2 (hE : Ext [] W0 W) (hO : Own2 W b1 b2 (.pointer (some ⟨d, 0, none⟩)) (a : Int)) => pm_line1 b1 b2 d lb sb (a : Int) D W ((hD.ext0 hE0).ext0 hE) hO)
  rw [hh] at HA
  have HT : Hid (∀ W, Ext [] W0 W → Calls Try.prog 84 #[.pointer (some ⟨w.heap.size, 0, none⟩), .pointer (some ⟨w.heap.size + 1, 0, none⟩)] W fun e w' => ∃ x, e = .returned x ∧ x = .int .i64 a ∧ DevPost [d, sb] W d lb sb (D.evict a).1 w') := fun W hE => (pm_evict1 w.heap.size (w.heap.size + 1) d lb sb a D W ((hD.ext0 hE0).ext0 hE) hn (hO0.ext hE (by simp) (by simp)) ha).mono fun _ _ h => ⟨_, h.1, rfl, h.2⟩
  have hlt := hD.lt
  have HZ := Lib.hid (And.intro hE0 (And.intro hlt hs0))
  clear hD hn ha hh hO0 hE0 hlt hs0 hb0 hb1
  go_enter Try.func31, Try.ntmps31
  go_wp2
  clear hw0
  go_region_held3 (fun w' => w'.cell? ⟨w.heap.size, 0, none⟩ = some (.pointer (some ⟨d, 0, none⟩)) ∧ w'.cell? ⟨w.heap.size + 1, 0, none⟩ = some (.int .i64 (a : Int)))
    (first
      | (go_keep; done)
      | exact ⟨hX1.cell k0 (by simp), hX1.cell k1 (by simp)⟩
      | exact ⟨hX2.cell k0 (by simp), hX2.cell k1 (by simp)⟩
      | exact ⟨hX5.cell k0 (by have := HZ.out.2.1; simp; try omega), hX5.cell k1 (by have := HZ.out.2.1; simp; try omega)⟩)
    ((first
      | (go_at_call 64; refine (pm_is _ _).mono ?_; rintro e w1 ⟨rfl, hE1⟩; have hX1 : Ext [] W0 w1 := (by first | exact (Ext.refl [] W0).drew.trans hE1 | exact hX2.trans hE1))
      | (go_at_call 71; refine (pm_line _ _ _).mono ?_; rintro e w2 ⟨rfl, hE2, hO2⟩; have hX2 : Ext [] W0 w2 := (by first | exact (Ext.refl [] W0).drew.trans hE2 | exact hX1.trans hE2))
      | (go_at_call 68
         refine (asked2_int_ok 84 #[.pointer (some ⟨w.heap.size, 0, none⟩), .pointer (some ⟨w.heap.size + 1, 0, none⟩)] _ _ _ _ _ _ (0, 0) (World.alloc_heap_new _ _) ?_ (enters_of Try.func110 (by kernel_rfl) rfl _) ?_ (enters_of Try.func84 (by kernel_rfl) rfl _) (fun W x w' => x = .int .i64 a ∧ DevPost [d, sb] W d lb sb (D.evict a).1 w') ?_).mono ?_
         · (intro W hE; exact HN.out W (Ext.trans (by first | exact (hX1.trans hE2).alloc _ | exact (hX2.trans hE1).alloc _) hE))
         · (intro W hE; exact HA.out W _ _ (Ext.trans (by first | exact (hX1.trans hE2).alloc _ | exact (hX2.trans hE1).alloc _) hE) (Own2.ext (by first | exact hO2.ext ((Ext.refl [] w2).alloc _) (by simp) (by simp) | exact hO2.ext (hE1.alloc _) (by simp) (by simp)) hE (by simp) (by simp)))
         · (intro W hE; exact HT.out W (Ext.trans (by first | exact (hX1.trans hE2).alloc _ | exact (hX2.trans hE1).alloc _) hE))
         rintro e w5 ⟨x, W5, rfl, hE5, rfl, hP5⟩
         have hX5 : Ext [d, sb] W0 w5 := (Ext.wide (Ext.trans (by first | exact (hX1.trans hE2).alloc _ | exact (hX2.trans hE1).alloc _) hE5)).trans hP5.2)))
  all_goals go_wp2
  all_goals go_ret
  all_goals exact ⟨rfl, hP5.1, HZ.out.1.wide.trans hX5⟩

set_option maxRecDepth 100000 in
set_option maxHeartbeats 2000000 in
theorem pm_Evict_out (d lb sb : Nat) (k : Int) (D : Dv) (w : World) (hD : DevAt w d lb sb D) (_hn : DvOk D) (ha : k < 0 ∨ (D.n : Int) ≤ k) :
    Calls Try.prog 31 #[.pointer (some ⟨d, 0, none⟩), .int .i64 k] w fun e w' => e = .returned (.int .i64 4) ∧ Ext [] w w' := by
  obtain ⟨W0, hw0⟩ : ∃ W0, (w.alloc (.cells #[.pointer (some ⟨d, 0, none⟩)] 26)).alloc (.cells #[.int .i64 k] 3) = W0 := ⟨_, rfl⟩
  have hE0 : Ext [] w W0 := by rw [← hw0]; exact ((Ext.refl _ _).alloc _).alloc _
  obtain ⟨hb0, hb1, hs0⟩ := al2_heap (w := w) #[.pointer (some ⟨d, 0, none⟩)] #[.int .i64 k] 26 3
  rw [hw0] at hb0 hb1 hs0
  have k0 := cell_of (j := 0) (v := .pointer (some ⟨d, 0, none⟩)) hb0 rfl
  have k1 := cell_of (j := 0) (v := .int .i64 k) hb1 rfl
  have HN := Lib.hid (fun W (hE : Ext [] W0 W) => pm_none d lb sb D W ((hD.ext0 hE0).ext0 hE))
  have hO0 : Own2 W0 w.heap.size (w.heap.size + 1) (.pointer (some ⟨d, 0, none⟩)) k := ⟨hb0, hb1⟩
  have hh : D.line k = false := by unfold Dv.line; simp; omega
  have HA := Lib.hid (fun W b1 b2 (hE : Ext [] W0 W) (hO : Own2 W b1 b2 (.pointer (some ⟨d, 0, none⟩)) k) => pm_line1 b1 b2 d lb sb k D W ((hD.ext0 hE0).ext0 hE) hO)
  rw [hh] at HA
  have hlt := hD.lt
  have HZ := Lib.hid (And.intro hE0 (And.intro hlt hs0))
  clear hD _hn ha hh hO0 hE0 hlt hs0 hb0 hb1
  go_enter Try.func31, Try.ntmps31
  go_wp2
  clear hw0
  go_region_held3 (fun w' => w'.cell? ⟨w.heap.size, 0, none⟩ = some (.pointer (some ⟨d, 0, none⟩)) ∧ w'.cell? ⟨w.heap.size + 1, 0, none⟩ = some (.int .i64 k))
    (first
      | (go_keep; done)
      | exact ⟨hX1.cell k0 (by simp), hX1.cell k1 (by simp)⟩
      | exact ⟨hX2.cell k0 (by simp), hX2.cell k1 (by simp)⟩
      | exact ⟨hX5.cell k0 (by simp), hX5.cell k1 (by simp)⟩)
    ((first
      | (go_at_call 64; refine (pm_is _ _).mono ?_; rintro e w1 ⟨rfl, hE1⟩; have hX1 : Ext [] W0 w1 := (by first | exact (Ext.refl [] W0).drew.trans hE1 | exact hX2.trans hE1))
      | (go_at_call 71; refine (pm_line _ _ _).mono ?_; rintro e w2 ⟨rfl, hE2, hO2⟩; have hX2 : Ext [] W0 w2 := (by first | exact (Ext.refl [] W0).drew.trans hE2 | exact hX1.trans hE2))
      | (go_at_call 68
         refine (asked2_int_bad 84 #[.pointer (some ⟨w.heap.size, 0, none⟩), .pointer (some ⟨w.heap.size + 1, 0, none⟩)] _ _ _ _ _ _ (0, 0) (World.alloc_heap_new _ _) ?_ (enters_of Try.func110 (by kernel_rfl) rfl _) ?_).mono ?_
         · (intro W hE; exact HN.out W (Ext.trans (by first | exact (hX1.trans hE2).alloc _ | exact (hX2.trans hE1).alloc _) hE))
         · (intro W hE; exact HA.out W _ _ (Ext.trans (by first | exact (hX1.trans hE2).alloc _ | exact (hX2.trans hE1).alloc _) hE) (Own2.ext (by first | exact hO2.ext ((Ext.refl [] w2).alloc _) (by simp) (by simp) | exact hO2.ext (hE1.alloc _) (by simp) (by simp)) hE (by simp) (by simp)))
         rintro e w5 ⟨rfl, hE5⟩
         have hX5 : Ext [] W0 w5 := Ext.trans (by first | exact (hX1.trans hE2).alloc _ | exact (hX2.trans hE1).alloc _) hE5)))
  all_goals go_wp2
  all_goals go_ret
  all_goals exact ⟨rfl, HZ.out.1.trans hX5⟩

set_option maxRecDepth 100000 in
set_option maxHeartbeats 2000000 in
theorem pm_Evict_none (bo : Option Addr) (k : Int) (w : World) (hD : NoneD w (.pointer bo)) :
    Calls Try.prog 31 #[.pointer bo, .int .i64 k] w fun e w' => e = .returned (.int .i64 1) ∧ Ext [] w w' := by
  obtain ⟨W0, hw0⟩ : ∃ W0, (w.alloc (.cells #[.pointer bo] 26)).alloc (.cells #[.int .i64 k] 3) = W0 := ⟨_, rfl⟩
  have hE0 : Ext [] w W0 := by rw [← hw0]; exact ((Ext.refl _ _).alloc _).alloc _
  obtain ⟨hb0, hb1, hs0⟩ := al2_heap (w := w) #[.pointer bo] #[.int .i64 k] 26 3
  rw [hw0] at hb0 hb1 hs0
  have k0 := cell_of (j := 0) (v := .pointer bo) hb0 rfl
  have k1 := cell_of (j := 0) (v := .int .i64 k) hb1 rfl
  have HN := Lib.hid (fun W (hE : Ext [] W0 W) => pm_isnone _ W ((hD.ext hE0).ext hE))
  have HZ := Lib.hid hE0
  clear hD hE0 hs0 hb0 hb1
  go_enter Try.func31, Try.ntmps31
  go_wp2
  clear hw0
  go_region_held3 (fun w' => w'.cell? ⟨w.heap.size, 0, none⟩ = some (.pointer bo) ∧ w'.cell? ⟨w.heap.size + 1, 0, none⟩ = some (.int .i64 k))
    (first
      | (go_keep; done)
      | exact ⟨hX1.cell k0 (by simp), hX1.cell k1 (by simp)⟩
      | exact ⟨hX2.cell k0 (by simp), hX2.cell k1 (by simp)⟩
      | exact ⟨hX5.cell k0 (by simp), hX5.cell k1 (by simp)⟩)
    ((first
      | (go_at_call 64; refine (pm_is _ _).mono ?_; rintro e w1 ⟨rfl, hE1⟩; have hX1 : Ext [] W0 w1 := (by first | exact (Ext.refl [] W0).drew.trans hE1 | exact hX2.trans hE1))
      | (go_at_call 71; refine (pm_line _ _ _).mono ?_; rintro e w2 ⟨rfl, hE2, hO2⟩; have hX2 : Ext [] W0 w2 := (by first | exact (Ext.refl [] W0).drew.trans hE2 | exact hX1.trans hE2))
      | (go_at_call 68
         refine (asked2_int_nil 84 #[.pointer (some ⟨w.heap.size, 0, none⟩), .pointer (some ⟨w.heap.size + 1, 0, none⟩)] _ _ _ _ _ _ (0, 0) (World.alloc_heap_new _ _) ?_).mono ?_
         · (intro W hE; exact HN.out W (Ext.trans (by first | exact (hX1.trans hE2).alloc _ | exact (hX2.trans hE1).alloc _) hE))
         rintro e w5 ⟨rfl, hE5⟩
         have hX5 : Ext [] W0 w5 := Ext.trans (by first | exact (hX1.trans hE2).alloc _ | exact (hX2.trans hE1).alloc _) hE5)))
  all_goals go_wp2
  all_goals go_ret
  all_goals exact ⟨rfl, HZ.out.trans hX5⟩

end Go.Proofs.Ytfojmjkcjdehaaa
namespace Go.Proofs.Ytfojmjkcjdehaaa
open Go Go.RowKit Go.Shelf
attribute [local go_sem] Oper.semAt_some

theorem Dv.has_in {D : Dv} {k : Int} (h : D.has k = true) : ∃ a : Nat, k = (a : Int) ∧ a < 8 * D.n := by
  unfold Dv.has at h
  simp at h
  exact ⟨k.toNat, by omega, by omega⟩
theorem Dv.has_out {D : Dv} {k : Int} (h : D.has k = false) : k < 0 ∨ 8 * (D.n : Int) ≤ k := by
  unfold Dv.has at h
  simp at h
  omega
theorem Dv.has_nat {D : Dv} {a : Nat} (h : a < 8 * D.n) : D.has (a : Int) = true := by
  unfold Dv.has
  simp
  omega
theorem Dv.line_in {D : Dv} {k : Int} (h : D.line k = true) : ∃ a : Nat, k = (a : Int) ∧ a < D.n := by
  unfold Dv.line at h
  simp at h
  exact ⟨k.toNat, by omega, by omega⟩
theorem Dv.line_out {D : Dv} {k : Int} (h : D.line k = false) : k < 0 ∨ (D.n : Int) ≤ k := by
  unfold Dv.line at h
  simp at h
  omega
theorem Dv.line_nat {D : Dv} {a : Nat} (h : a < D.n) : D.line (a : Int) = true := by
  unfold Dv.line
  simp
  omega
theorem Dv.load_nat {D : Dv} {a : Nat} (h : a < 8 * D.n) : D.load (a : Int) = (D.L a, 0) := by unfold Dv.load; rw [Dv.has_nat h]; simp
theorem Dv.stays_nat {D : Dv} {a : Nat} (h : a < 8 * D.n) : D.stays (a : Int) = (D.S a, 0) := by unfold Dv.stays; rw [Dv.has_nat h]; simp

theorem pm_Load (d lb sb : Nat) (k : Int) (D : Dv) (w : World) (hD : DevAt w d lb sb D) (hn : DvOk D) :
    Calls Try.prog 20 #[.pointer (some ⟨d, 0, none⟩), .int .i64 k] w fun e w' => e = .returned (.tuple #[.int .u64 (D.load k).1, .int .i64 (D.load k).2]) ∧ Ext [] w w' := by
  cases h : D.has k with
  | true =>
    obtain ⟨a, rfl, ha⟩ := Dv.has_in h
    rw [Dv.load_nat ha]
    exact (pm_Load_in d lb sb a D w hD hn ha).mono fun e w' ⟨h1, h2⟩ => ⟨h1, h2.2⟩
  | false =>
    unfold Dv.load
    rw [h]
    exact pm_Load_out d lb sb k D w hD hn (Dv.has_out h)
theorem pm_Stays (d lb sb : Nat) (k : Int) (D : Dv) (w : World) (hD : DevAt w d lb sb D) (hn : DvOk D) :
    Calls Try.prog 21 #[.pointer (some ⟨d, 0, none⟩), .int .i64 k] w fun e w' => e = .returned (.tuple #[.int .u64 (D.stays k).1, .int .i64 (D.stays k).2]) ∧ Ext [] w w' := by
  cases h : D.has k with
  | true =>
    obtain ⟨a, rfl, ha⟩ := Dv.has_in h
    rw [Dv.stays_nat ha]
    exact (pm_Stays_in d lb sb a D w hD hn ha).mono fun e w' ⟨h1, h2⟩ => ⟨h1, h2.2⟩
  | false =>
    unfold Dv.stays
    rw [h]
    exact pm_Stays_out d lb sb k D w hD hn (Dv.has_out h)
theorem pm_Store (d lb sb : Nat) (k v : Int) (D : Dv) (w : World) (hD : DevAt w d lb sb D) (hn : DvOk D) :
    Calls Try.prog 18 #[.pointer (some ⟨d, 0, none⟩), .int .i64 k, .int .u64 v] w fun e w' => e = .returned (.int .i64 (D.store k v).2) ∧ DevPost [lb] w d lb sb (D.store k v).1 w' := by
  cases h : D.has k with
  | true =>
    obtain ⟨a, rfl, ha⟩ := Dv.has_in h
    unfold Dv.store
    rw [h]
    exact pm_Store_in d lb sb a v D w hD hn ha
  | false =>
    unfold Dv.store
    rw [h]
    exact (pm_Store_out d lb sb k v D w hD hn (Dv.has_out h)).mono fun e w' ⟨h1, h2⟩ => ⟨h1, hD.ext0 h2, h2.wide⟩
theorem pm_Swap (d lb sb : Nat) (k fr tw : Int) (D : Dv) (w : World) (hD : DevAt w d lb sb D) (hn : DvOk D) :
    Calls Try.prog 28 #[.pointer (some ⟨d, 0, none⟩), .int .i64 k, .int .u64 fr, .int .u64 tw] w fun e w' => e = .returned (.tuple #[.bool (D.swap k fr tw).2.1, .int .i64 (D.swap k fr tw).2.2]) ∧ DevPost [lb] w d lb sb (D.swap k fr tw).1 w' := by
  cases h : D.has k with
  | true =>
    obtain ⟨a, rfl, ha⟩ := Dv.has_in h
    unfold Dv.swap
    rw [h]
    refine (pm_Swap_in d lb sb a fr tw D w hD hn ha).mono fun e w' ⟨h1, h2⟩ => ?_
    unfold Dv.swapTo at h2
    by_cases hb : D.L a = fr
    · rw [if_pos hb] at h2
      simp only [if_true, Int.toNat_natCast, hb]
      exact ⟨by rw [h1, hb]; simp, h2⟩
    · rw [if_neg hb] at h2
      simp only [if_true, Int.toNat_natCast, hb, if_false]
      exact ⟨by rw [h1, show (D.L a == fr) = false from by simpa using hb], h2⟩
  | false =>
    unfold Dv.swap
    rw [h]
    exact (pm_Swap_out d lb sb k fr tw D w hD hn (Dv.has_out h)).mono fun e w' ⟨h1, h2⟩ => ⟨h1, hD.ext0 h2, h2.wide⟩
theorem pm_Flush (d lb sb : Nat) (k : Int) (D : Dv) (w : World) (hD : DevAt w d lb sb D) (hn : DvOk D) :
    Calls Try.prog 22 #[.pointer (some ⟨d, 0, none⟩), .int .i64 k] w fun e w' => e = .returned (.int .i64 (D.flush k).2) ∧ DevPost [d] w d lb sb (D.flush k).1 w' := by
  cases h : D.line k with
  | true =>
    obtain ⟨a, rfl, ha⟩ := Dv.line_in h
    have h2 : (D.flush (a : Int)).2 = 0 := by unfold Dv.flush; rw [h]; rfl
    rw [h2]
    exact pm_Flush_in d lb sb a D w hD hn ha
  | false =>
    unfold Dv.flush
    rw [h]
    exact (pm_Flush_out d lb sb k D w hD hn (Dv.line_out h)).mono fun e w' ⟨h1, h2⟩ => ⟨h1, hD.ext0 h2, h2.wide⟩
theorem pm_Evict (d lb sb : Nat) (k : Int) (D : Dv) (w : World) (hD : DevAt w d lb sb D) (hn : DvOk D) :
    Calls Try.prog 31 #[.pointer (some ⟨d, 0, none⟩), .int .i64 k] w fun e w' => e = .returned (.int .i64 (D.evict k).2) ∧ DevPost [d, sb] w d lb sb (D.evict k).1 w' := by
  cases h : D.line k with
  | true =>
    obtain ⟨a, rfl, ha⟩ := Dv.line_in h
    have h2 : (D.evict (a : Int)).2 = 0 := by unfold Dv.evict; rw [h]; rfl
    rw [h2]
    exact pm_Evict_in d lb sb a D w hD hn ha
  | false =>
    unfold Dv.evict
    rw [h]
    exact (pm_Evict_out d lb sb k D w hD hn (Dv.line_out h)).mono fun e w' ⟨h1, h2⟩ => ⟨h1, hD.ext0 h2, h2.wide⟩

/-- devices that are the same -/
def Dv.eqB (A B : Dv) : Bool := decide (A.n = B.n) && eqL A.n A.L B.L && eqL A.n A.S B.S && eqWs A.W B.W
/-- how many lines are dirty -/
def dirtyN (F G : Wd) : Nat → Nat
  | 0 => 0
  | n + 1 => dirtyN F G n + (if eqW (lineOf F n) (lineOf G n) then 0 else 1)
theorem dirtyN_le (F G : Wd) : ∀ n, dirtyN F G n ≤ n
  | 0 => Nat.le_refl _
  | n + 1 => by unfold dirtyN; have := dirtyN_le F G n; split <;> omega
/-- what State tells -/
def mediaV (D : Dv) : Value := .agg #[.int .i64 (D.n : Int), .int .i64 (D.W.length : Int), .int .i64 (dirtyN D.L D.S D.n : Int)]
def media0 : Value := .agg #[.int .i64 0, .int .i64 0, .int .i64 0]
theorem tri_set {w : World} {g : Nat} {a b c : Value} {t : TypeId} (h : w.heap[g]? = some (.cells #[a, b, c] t (0, 0))) (x y z : Value) :
    (((w.setCell ⟨g, 0, none⟩ x).setCell ⟨g, 1, none⟩ y).setCell ⟨g, 2, none⟩ z).heap[g]? = some (.cells #[x, y, z] t (0, 0)) := by
  simp only [World.setCell, Array.getElem?_modify, if_true, h]; rfl
theorem tri_set2 {w : World} {g : Nat} {a b c : Value} {t : TypeId} (h : w.heap[g]? = some (.cells #[a, b, c] t (0, 0))) (z : Value) :
    (w.setCell ⟨g, 2, none⟩ z).heap[g]? = some (.cells #[a, b, z] t (0, 0)) := by
  simp only [World.setCell, Array.getElem?_modify, if_true, h]; rfl

end Go.Proofs.Ytfojmjkcjdehaaa
namespace Go.Proofs.Ytfojmjkcjdehaaa
open Go Go.RowKit Go.Shelf
attribute [local go_sem] Oper.semAt_some

set_option maxRecDepth 100000 in
set_option maxHeartbeats 800000 in
theorem pm_State_none (bo : Option Addr) (w : World) (h : NoneD w (.pointer bo)) : Calls Try.prog 24 #[.pointer bo] w fun e w' => e = .returned media0 ∧ Ext [] w w' := by
  have HN := Lib.hid (fun W (hE : Ext [] w W) => pm_isnone _ W (h.ext hE))
  clear h
  have hb := World.alloc_heap_new w (.cells #[.int .i64 0, .int .i64 0, .int .i64 0] 49)
  have HB := Lib.hid hb
  go_enter Try.func24, Try.ntmps24
  go_wp2_with fail
  clear hb
  refine (HN.out _ ((Ext.refl _ _).alloc _)).mono ?_
  rintro e w' ⟨rfl, rfl⟩
  go_wp2
  refine bodyPost_ret (results_agg Try.results24 _ _ w.heap.size _ #[.int .i64 0, .int .i64 0, .int .i64 0] _ _ rfl HB.out Try.underlying49 rfl (by kernel_rfl)) rfl ⟨rfl, (Ext.refl [] w).alloc _⟩

set_option maxRecDepth 100000 in
set_option maxHeartbeats 1600000 in
theorem pm_State (d lb sb : Nat) (D : Dv) (w : World) (hD : DevAt w d lb sb D) (hn : DvOk D) :
    Calls Try.prog 24 #[.pointer (some ⟨d, 0, none⟩)] w fun e w' => e = .returned (mediaV D) ∧ Ext [] w w' := by
  have HN := Lib.hid (fun W (hE : Ext [] w W) => pm_none d lb sb D W (hD.ext0 hE))
  have HD := Lib.hid (And.intro hD hn)
  obtain ⟨⟨cl, cs, wv, h1, hwv⟩, _, _, _⟩ := hD
  obtain ⟨wo, wc, rfl⟩ := slice_of_owns hwv
  obtain ⟨W0, hw0⟩ : ∃ W0, w.alloc (.cells #[.int .i64 0, .int .i64 0, .int .i64 0] 49) = W0 := ⟨_, rfl⟩
  have hE0 : Ext [] w W0 := by rw [← hw0]; exact (Ext.refl [] w).alloc _
  have hb0 : W0.heap[w.heap.size]? = some (.cells #[.int .i64 0, .int .i64 0, .int .i64 0] 49 (0, 0)) := by rw [← hw0]; exact World.alloc_heap_new _ _
  have hd1 := hE0.at h1 (by simp)
  have hlt := lt_of_block h1
  have k0 := cell_of (j := 0) (v := .slice (some ⟨lb, 0, none⟩) D.n cl) hd1 rfl
  have k1 := cell_of (j := 1) (v := .slice (some ⟨sb, 0, none⟩) D.n cs) hd1 rfl
  have k2 := cell_of (j := 2) (v := .slice wo D.W.length wc) hd1 rfl
  have m0 := cell_of (j := 0) (v := .int .i64 0) hb0 rfl
  have m1 := cell_of (j := 1) (v := .int .i64 0) hb0 rfl
  have m2 := cell_of (j := 2) (v := .int .i64 0) hb0 rfl
  have f0 := free_of hb0 0
  have f1 := free_of hb0 1
  have f2 := free_of hb0 2
  have H0 := Lib.hid (And.intro hE0 (And.intro hb0 (And.intro hd1 hlt)))
  clear hE0 hb0 hd1 hlt h1 hwv
  go_enter Try.func24, Try.ntmps24
  go_wp2_with fail
  refine (HN.out _ H0.out.1).mono ?_
  rintro e w' ⟨rfl, rfl⟩
  clear hw0
  go_upto_region 3 with fail
  go_cut [17] from 7 to 17 (fun _ wx => Ext [w.heap.size] W0 wx ∧ wx.heap[w.heap.size]? = some (.cells #[.int .i64 (D.n : Int), .int .i64 (D.W.length : Int), .int .i64 0] 49 (0, 0)))
  case first =>
    go_region
    all_goals (go_wp2_with fail; go_meet; refine ⟨?_, ?_⟩)
    all_goals (first | exact (((((Ext.refl [w.heap.size] W0).drew).setCell (.inl (by simp)) _).setCell (.inl (by simp)) _).setCell (.inl (by simp)) _) | exact tri_set H0.out.2.1 _ _ _)
  case rest =>
    obtain ⟨hEc, hbc⟩ := hcut
    have HC := Lib.hid (And.intro hEc hbc)
    have hne : d ≠ w.heap.size := by have := H0.out.2.2.2; omega
    have HDW := Lib.hid (HD.out.1.ext0 H0.out.1)
    have k0 := hEc.cell k0 (by simpa using hne)
    have k1 := hEc.cell k1 (by simpa using hne)
    have hn1 : D.n ≤ 1024 := HD.out.2.n1
    have HEw : Hid (∀ W, Ext [w.heap.size] W0 W → Ext [] w W) := fun W hE => H0.out.1.trans' hE (fun j hj => .inr (by simp at hj; omega))
    clear hEc hbc m0 m1 m2 f0 f1 f2 k2 hne
    go_wp2
    go_loopg [23] D.n (fun cnt i wr => ∃ j : Nat, i = .int .i64 j ∧ j + cnt = D.n ∧ Ext [w.heap.size] W0 wr ∧ wr.heap[w.heap.size]? = some (.cells #[.int .i64 (D.n : Int), .int .i64 (D.W.length : Int), .int .i64 (dirtyN D.L D.S j : Int)] 49 (0, 0)))
    case atStart => exact ⟨0, rfl, by omega, HC.out.1, HC.out.2⟩
    case round =>
      obtain ⟨j, rfl, hj, hE, hb⟩ := hrel
      have hlw := HD.out.1.lt
      have hdw := hE.at H0.out.2.2.1 (by simp; omega)
      have q0 := cell_of (j := 0) (v := .slice (some ⟨lb, 0, none⟩) D.n cl) hdw rfl
      have q1 := cell_of (j := 1) (v := .slice (some ⟨sb, 0, none⟩) D.n cs) hdw rfl
      by_cases hlt : j < D.n
      · obtain ⟨x0, x1, x2, x3, x4, x5, x6, x7⟩ := (HDW.out.2.1.ext hE (by simp; omega)).eight hlt
        obtain ⟨y0, y1, y2, y3, y4, y5, y6, y7⟩ := (HDW.out.2.2.1.ext hE (by simp; omega)).eight hlt
        obtain ⟨r, hr⟩ : ∃ r, eqW (lineOf D.L j) (lineOf D.S j) = r := ⟨_, rfl⟩
        have hne := neLine8 (lineOf D.L j) (lineOf D.S j)
        rw [hr] at hne
        simp only [lineOf, Nat.add_zero] at hne
        have hst : Hid (dirtyN D.L D.S (j + 1) = dirtyN D.L D.S j + (if r then 0 else 1)) := by
          unfold Hid
          rw [dirtyN, hr]
        have hdj := dirtyN_le D.L D.S j
        have hi0 : (0 : Int) ≤ (j : Int) := by omega
        have hi1 : (j : Int) < (D.n : Int) := by omega
        have hjm : (j : Int) ≤ 1024 := by omega
        have m2 := cell_of (j := 2) (v := .int .i64 (dirtyN D.L D.S j : Int)) hb rfl
        have f2 := free_of hb 2
        have hdm : (dirtyN D.L D.S j : Int) ≤ 1024 := by omega
        have HJ := Lib.hid (And.intro hj (And.intro hlt (And.intro hE hb)))
        obtain ⟨T, hT⟩ : ∃ T, dirtyN D.L D.S j = T := ⟨_, rfl⟩
        rw [hT] at m2 hdm
        have hdm0 : (0 : Int) ≤ (T : Int) := by omega
        have HT := Lib.hid hT
        clear hj hE hb hr hlw hdw k0 k1 hdj hT
        cases r with
        | true =>
          simp only [Bool.not_true] at hne
          go_wp2
          go_quiet (fail)
          go_wp2
          go_roundg (D.n - (j + 1))
          case measure => have := HJ.out.1; omega
          case rel =>
            refine ⟨j + 1, by go_num, by have := HJ.out; omega, HJ.out.2.2.1.drewN _, ?_⟩
            rw [hst.out]
            exact HJ.out.2.2.2
        | false =>
          simp only [Bool.not_false] at hne
          go_wp2
          go_quiet (fail)
          go_wp2
          go_roundg (D.n - (j + 1))
          case measure => have := HJ.out.1; omega
          case rel =>
            refine ⟨j + 1, by go_num, by have := HJ.out; omega, (HJ.out.2.2.1.drewN _).setCell (.inl (by simp)) _, ?_⟩
            rw [hst.out, HT.out]
            have hb := HJ.out.2.2.2
            rw [HT.out] at hb
            exact tri_set2 (w := wr.drewN _) hb _
      · have hd : decide (j < D.n) = false := by simpa using hlt
        obtain rfl : j = D.n := by omega
        have HJ := Lib.hid (And.intro hE hb)
        have m0 := cell_of (j := 0) (v := .int .i64 (D.n : Int)) hb rfl
        have m1 := cell_of (j := 1) (v := .int .i64 (D.W.length : Int)) hb rfl
        have m2 := cell_of (j := 2) (v := .int .i64 (dirtyN D.L D.S D.n : Int)) hb rfl
        have f0 := free_of hb 0
        have f1 := free_of hb 1
        have f2 := free_of hb 2
        clear hj hE hb hlw hdw hlt k0 k1
        go_wp2
        refine bodyPost_ret (results_agg Try.results24 _ _ w.heap.size _ #[.int .i64 (D.n : Int), .int .i64 (D.W.length : Int), .int .i64 (dirtyN D.L D.S D.n : Int)] _ _ rfl (tri_set HJ.out.2 _ _ _) Try.underlying49 rfl (by kernel_rfl)) rfl ⟨rfl, ?_⟩
        exact HEw.out _ (((HJ.out.1.setCell (.inl (by simp)) _).setCell (.inl (by simp)) _).setCell (.inl (by simp)) _)
end Go.Proofs.Ytfojmjkcjdehaaa
