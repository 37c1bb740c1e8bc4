/- Package pmem: Load, Stays (printed by genop.py) Package pmem: Store, Swap (printed by genop.py) -/
import Derived.Test.YtfojmjkcjdehaaaPgA
import Derived.Test.YtfojmjkcjdehaaaPgB
import Derived.Deep.RegionHeld3
namespace Go.Proofs.Ytfojmjkcjdehaaa
open Go Go.RowKit Go.Shelf
attribute [local go_sem] Oper.semAt_some

set_option maxRecDepth 100000 in
set_option maxHeartbeats 2000000 in
theorem pm_Load_in (d lb sb a : Nat) (D : Dv) (w : World) (hD : DevAt w d lb sb D) (hn : DvOk D) (ha : a < 8 * D.n) :
    Calls Try.prog 20 #[.pointer (some ⟨d, 0, none⟩), .int .i64 (a : Int)] w fun e w' => e = .returned (.tuple #[.int .u64 (D.L a), .int .i64 0]) ∧ DevPost [] w d lb sb D w' := by
  obtain ⟨W0, hw0⟩ : ∃ W0, (w.alloc (.cells #[.pointer (some ⟨d, 0, none⟩)] 26)).alloc (.cells #[.int .i64 (a : Int)] 3) = W0 := ⟨_, rfl⟩
  have hE0 : Ext [] w W0 := by rw [← hw0]; exact ((Ext.refl _ _).alloc _).alloc _
  obtain ⟨hb0, hb1, hs0⟩ := al2_heap (w := w) #[.pointer (some ⟨d, 0, none⟩)] #[.int .i64 (a : Int)] 26 3
  rw [hw0] at hb0 hb1 hs0
  have k0 := cell_of (j := 0) (v := .pointer (some ⟨d, 0, none⟩)) hb0 rfl
  have k1 := cell_of (j := 0) (v := .int .i64 (a : Int)) hb1 rfl
  have HN := Lib.hid (fun W (hE : Ext [] W0 W) => pm_none d lb sb D W ((hD.ext0 hE0).ext0 hE))
  have hO0 : Own2 W0 w.heap.size (w.heap.size + 1) (.pointer (some ⟨d, 0, none⟩)) (a : Int) := ⟨hb0, hb1⟩
  have hh : D.has (a : Int) = true := by unfold Dv.has; simp; omega
  have HA := Lib.hid (fun W b1 b2 (hE : Ext [] W0 W) (hO : Own2 W b1 b2 (.pointer (some ⟨d, 0, none⟩)) (a : Int)) => pm_at1 b1 b2 d lb sb (a : Int) D W ((hD.ext0 hE0).ext0 hE) hn.n1 hO)
  rw [hh] at HA
  have HT : Hid (∀ W, Ext [] W0 W → Calls Try.prog 66 #[.pointer (some ⟨w.heap.size, 0, none⟩), .pointer (some ⟨w.heap.size + 1, 0, none⟩)] W fun e w' => ∃ x, e = .returned x ∧ x = .int .u64 (D.L a) ∧ DevPost [] W d lb sb D w') := fun W hE => (pm_load1 w.heap.size (w.heap.size + 1) d lb sb a D W ((hD.ext0 hE0).ext0 hE) hn.n1 (hO0.ext hE (by simp) (by simp)) ha).mono fun _ _ h => ⟨_, h.1, rfl, ((hD.ext0 hE0).ext0 hE).ext0 h.2, h.2⟩
  have hlt := hD.lt
  have HZ := Lib.hid (And.intro hE0 (And.intro hlt hs0))
  clear hD hn ha hh hO0 hE0 hlt hs0 hb0 hb1
  go_enter Try.func20, Try.ntmps20
  go_wp2
  clear hw0
  go_region_held3 (fun w' => w'.cell? ⟨w.heap.size, 0, none⟩ = some (.pointer (some ⟨d, 0, none⟩)) ∧ w'.cell? ⟨w.heap.size + 1, 0, none⟩ = some (.int .i64 (a : Int)))
    (first
      | (go_keep; done)
      | exact ⟨hX1.cell k0 (by simp), hX1.cell k1 (by simp)⟩
      | exact ⟨hX2.cell k0 (by simp), hX2.cell k1 (by simp)⟩
      | exact ⟨hX5.cell k0 (by have := HZ.out.2.1; simp; try omega), hX5.cell k1 (by have := HZ.out.2.1; simp; try omega)⟩)
    ((first
      | (go_at_call 64; refine (pm_is _ _).mono ?_; rintro e w1 ⟨rfl, hE1⟩; have hX1 : Ext [] W0 w1 := (by first | exact (Ext.refl [] W0).drew.trans hE1 | exact hX2.trans hE1))
      | (go_at_call 65; refine (pm_at _ _ _).mono ?_; rintro e w2 ⟨rfl, hE2, hO2⟩; have hX2 : Ext [] W0 w2 := (by first | exact (Ext.refl [] W0).drew.trans hE2 | exact hX1.trans hE2))
      | (go_at_call 61
         refine (asked2_u64_ok 66 #[.pointer (some ⟨w.heap.size, 0, none⟩), .pointer (some ⟨w.heap.size + 1, 0, none⟩)] _ _ _ _ _ _ (0, 0) (World.alloc_heap_new _ _) ?_ (enters_of Try.func107 (by kernel_rfl) rfl _) ?_ (enters_of Try.func66 (by kernel_rfl) rfl _) (fun W x w' => x = .int .u64 (D.L a) ∧ DevPost [] W d lb sb D w') ?_).mono ?_
         · (intro W hE; exact HN.out W (Ext.trans (by first | exact (hX1.trans hE2).alloc _ | exact (hX2.trans hE1).alloc _) hE))
         · (intro W hE; exact HA.out W _ _ (Ext.trans (by first | exact (hX1.trans hE2).alloc _ | exact (hX2.trans hE1).alloc _) hE) (Own2.ext (by first | exact hO2.ext ((Ext.refl [] w2).alloc _) (by simp) (by simp) | exact hO2.ext (hE1.alloc _) (by simp) (by simp)) hE (by simp) (by simp)))
         · (intro W hE; exact HT.out W (Ext.trans (by first | exact (hX1.trans hE2).alloc _ | exact (hX2.trans hE1).alloc _) hE))
         rintro e w5 ⟨x, W5, rfl, hE5, rfl, hP5⟩
         have hX5 : Ext [] W0 w5 := (Ext.wide (Ext.trans (by first | exact (hX1.trans hE2).alloc _ | exact (hX2.trans hE1).alloc _) hE5)).trans hP5.2)))
  all_goals go_wp2
  all_goals go_ret2
  all_goals exact ⟨rfl, hP5.1, HZ.out.1.wide.trans hX5⟩

set_option maxRecDepth 100000 in
set_option maxHeartbeats 2000000 in
theorem pm_Load_out (d lb sb : Nat) (k : Int) (D : Dv) (w : World) (hD : DevAt w d lb sb D) (hn : DvOk D) (ha : k < 0 ∨ 8 * (D.n : Int) ≤ k) :
    Calls Try.prog 20 #[.pointer (some ⟨d, 0, none⟩), .int .i64 k] w fun e w' => e = .returned (.tuple #[.int .u64 0, .int .i64 4]) ∧ Ext [] w w' := by
  obtain ⟨W0, hw0⟩ : ∃ W0, (w.alloc (.cells #[.pointer (some ⟨d, 0, none⟩)] 26)).alloc (.cells #[.int .i64 k] 3) = W0 := ⟨_, rfl⟩
  have hE0 : Ext [] w W0 := by rw [← hw0]; exact ((Ext.refl _ _).alloc _).alloc _
  obtain ⟨hb0, hb1, hs0⟩ := al2_heap (w := w) #[.pointer (some ⟨d, 0, none⟩)] #[.int .i64 k] 26 3
  rw [hw0] at hb0 hb1 hs0
  have k0 := cell_of (j := 0) (v := .pointer (some ⟨d, 0, none⟩)) hb0 rfl
  have k1 := cell_of (j := 0) (v := .int .i64 k) hb1 rfl
  have HN := Lib.hid (fun W (hE : Ext [] W0 W) => pm_none d lb sb D W ((hD.ext0 hE0).ext0 hE))
  have hO0 : Own2 W0 w.heap.size (w.heap.size + 1) (.pointer (some ⟨d, 0, none⟩)) k := ⟨hb0, hb1⟩
  have hh : D.has k = false := by unfold Dv.has; simp; omega
  have HA := Lib.hid (fun W b1 b2 (hE : Ext [] W0 W) (hO : Own2 W b1 b2 (.pointer (some ⟨d, 0, none⟩)) k) => pm_at1 b1 b2 d lb sb k D W ((hD.ext0 hE0).ext0 hE) hn.n1 hO)
  rw [hh] at HA
  have hlt := hD.lt
  have HZ := Lib.hid (And.intro hE0 (And.intro hlt hs0))
  clear hD hn ha hh hO0 hE0 hlt hs0 hb0 hb1
  go_enter Try.func20, Try.ntmps20
  go_wp2
  clear hw0
  go_region_held3 (fun w' => w'.cell? ⟨w.heap.size, 0, none⟩ = some (.pointer (some ⟨d, 0, none⟩)) ∧ w'.cell? ⟨w.heap.size + 1, 0, none⟩ = some (.int .i64 k))
    (first
      | (go_keep; done)
      | exact ⟨hX1.cell k0 (by simp), hX1.cell k1 (by simp)⟩
      | exact ⟨hX2.cell k0 (by simp), hX2.cell k1 (by simp)⟩
      | exact ⟨hX5.cell k0 (by simp), hX5.cell k1 (by simp)⟩)
    ((first
      | (go_at_call 64; refine (pm_is _ _).mono ?_; rintro e w1 ⟨rfl, hE1⟩; have hX1 : Ext [] W0 w1 := (by first | exact (Ext.refl [] W0).drew.trans hE1 | exact hX2.trans hE1))
      | (go_at_call 65; refine (pm_at _ _ _).mono ?_; rintro e w2 ⟨rfl, hE2, hO2⟩; have hX2 : Ext [] W0 w2 := (by first | exact (Ext.refl [] W0).drew.trans hE2 | exact hX1.trans hE2))
      | (go_at_call 61
         refine (asked2_u64_bad 66 #[.pointer (some ⟨w.heap.size, 0, none⟩), .pointer (some ⟨w.heap.size + 1, 0, none⟩)] _ _ _ _ _ _ (0, 0) (World.alloc_heap_new _ _) ?_ (enters_of Try.func107 (by kernel_rfl) rfl _) ?_).mono ?_
         · (intro W hE; exact HN.out W (Ext.trans (by first | exact (hX1.trans hE2).alloc _ | exact (hX2.trans hE1).alloc _) hE))
         · (intro W hE; exact HA.out W _ _ (Ext.trans (by first | exact (hX1.trans hE2).alloc _ | exact (hX2.trans hE1).alloc _) hE) (Own2.ext (by first | exact hO2.ext ((Ext.refl [] w2).alloc _) (by simp) (by simp) | exact hO2.ext (hE1.alloc _) (by simp) (by simp)) hE (by simp) (by simp)))
         rintro e w5 ⟨rfl, hE5⟩
         have hX5 : Ext [] W0 w5 := Ext.trans (by first | exact (hX1.trans hE2).alloc _ | exact (hX2.trans hE1).alloc _) hE5)))
  all_goals go_wp2
  all_goals go_ret2
  all_goals exact ⟨rfl, HZ.out.1.trans hX5⟩

set_option maxRecDepth 100000 in
set_option maxHeartbeats 2000000 in
theorem pm_Load_none (bo : Option Addr) (k : Int) (w : World) (hD : NoneD w (.pointer bo)) :
    Calls Try.prog 20 #[.pointer bo, .int .i64 k] w fun e w' => e = .returned (.tuple #[.int .u64 0, .int .i64 1]) ∧ Ext [] w w' := by
  obtain ⟨W0, hw0⟩ : ∃ W0, (w.alloc (.cells #[.pointer bo] 26)).alloc (.cells #[.int .i64 k] 3) = W0 := ⟨_, rfl⟩
  have hE0 : Ext [] w W0 := by rw [← hw0]; exact ((Ext.refl _ _).alloc _).alloc _
  obtain ⟨hb0, hb1, hs0⟩ := al2_heap (w := w) #[.pointer bo] #[.int .i64 k] 26 3
  rw [hw0] at hb0 hb1 hs0
  have k0 := cell_of (j := 0) (v := .pointer bo) hb0 rfl
  have k1 := cell_of (j := 0) (v := .int .i64 k) hb1 rfl
  have HN := Lib.hid (fun W (hE : Ext [] W0 W) => pm_isnone _ W ((hD.ext hE0).ext hE))
  have HZ := Lib.hid hE0
  clear hD hE0 hs0 hb0 hb1
  go_enter Try.func20, Try.ntmps20
  go_wp2
  clear hw0
  go_region_held3 (fun w' => w'.cell? ⟨w.heap.size, 0, none⟩ = some (.pointer bo) ∧ w'.cell? ⟨w.heap.size + 1, 0, none⟩ = some (.int .i64 k))
    (first
      | (go_keep; done)
      | exact ⟨hX1.cell k0 (by simp), hX1.cell k1 (by simp)⟩
      | exact ⟨hX2.cell k0 (by simp), hX2.cell k1 (by simp)⟩
      | exact ⟨hX5.cell k0 (by simp), hX5.cell k1 (by simp)⟩)
    ((first
      | (go_at_call 64; refine (pm_is _ _).mono ?_; rintro e w1 ⟨rfl, hE1⟩; have hX1 : Ext [] W0 w1 := (by first | exact (Ext.refl [] W0).drew.trans hE1 | exact hX2.trans hE1))
      | (go_at_call 65; refine (pm_at _ _ _).mono ?_; rintro e w2 ⟨rfl, hE2, hO2⟩; have hX2 : Ext [] W0 w2 := (by first | exact (Ext.refl [] W0).drew.trans hE2 | exact hX1.trans hE2))
      | (go_at_call 61
         refine (asked2_u64_nil 66 #[.pointer (some ⟨w.heap.size, 0, none⟩), .pointer (some ⟨w.heap.size + 1, 0, none⟩)] _ _ _ _ _ _ (0, 0) (World.alloc_heap_new _ _) ?_).mono ?_
         · (intro W hE; exact HN.out W (Ext.trans (by first | exact (hX1.trans hE2).alloc _ | exact (hX2.trans hE1).alloc _) hE))
         rintro e w5 ⟨rfl, hE5⟩
         have hX5 : Ext [] W0 w5 := Ext.trans (by first | exact (hX1.trans hE2).alloc _ | exact (hX2.trans hE1).alloc _) hE5)))
  all_goals go_wp2
  all_goals go_ret2
  all_goals exact ⟨rfl, HZ.out.trans hX5⟩

set_option maxRecDepth 100000 in
set_option maxHeartbeats 2000000 in
theorem pm_Stays_in (d lb sb a : Nat) (D : Dv) (w : World) (hD : DevAt w d lb sb D) (hn : DvOk D) (ha : a < 8 * D.n) :
    Calls Try.prog 21 #[.pointer (some ⟨d, 0, none⟩), .int .i64 (a : Int)] w fun e w' => e = .returned (.tuple #[.int .u64 (D.S a), .int .i64 0]) ∧ DevPost [] w d lb sb D w' := by
  obtain ⟨W0, hw0⟩ : ∃ W0, (w.alloc (.cells #[.pointer (some ⟨d, 0, none⟩)] 26)).alloc (.cells #[.int .i64 (a : Int)] 3) = W0 := ⟨_, rfl⟩
  have hE0 : Ext [] w W0 := by rw [← hw0]; exact ((Ext.refl _ _).alloc _).alloc _
  obtain ⟨hb0, hb1, hs0⟩ := al2_heap (w := w) #[.pointer (some ⟨d, 0, none⟩)] #[.int .i64 (a : Int)] 26 3
  rw [hw0] at hb0 hb1 hs0
  have k0 := cell_of (j := 0) (v := .pointer (some ⟨d, 0, none⟩)) hb0 rfl
  have k1 := cell_of (j := 0) (v := .int .i64 (a : Int)) hb1 rfl
  have HN := Lib.hid (fun W (hE : Ext [] W0 W) => pm_none d lb sb D W ((hD.ext0 hE0).ext0 hE))
  have hO0 : Own2 W0 w.heap.size (w.heap.size + 1) (.pointer (some ⟨d, 0, none⟩)) (a : Int) := ⟨hb0, hb1⟩
  have hh : D.has (a : Int) = true := by unfold Dv.has; simp; omega
  have HA := Lib.hid (fun W b1 b2 (hE : Ext [] W0 W) (hO : Own2 W b1 b2 (.pointer (some ⟨d, 0, none⟩)) (a : Int)) => pm_at1 b1 b2 d lb sb (a : Int) D W ((hD.ext0 hE0).ext0 hE) hn.n1 hO)
  rw [hh] at HA
  have HT : Hid (∀ W, Ext [] W0 W → Calls Try.prog 67 #[.pointer (some ⟨w.heap.size, 0, none⟩), .pointer (some ⟨w.heap.size + 1, 0, none⟩)] W fun e w' => ∃ x, e = .returned x ∧ x = .int .u64 (D.S a) ∧ DevPost [] W d lb sb D w') := fun W hE => (pm_stays1 w.heap.size (w.heap.size + 1) d lb sb a D W ((hD.ext0 hE0).ext0 hE) hn.n1 (hO0.ext hE (by simp) (by simp)) ha).mono fun _ _ h => ⟨_, h.1, rfl, ((hD.ext0 hE0).ext0 hE).ext0 h.2, h.2⟩
  have hlt := hD.lt
  have HZ := Lib.hid (And.intro hE0 (And.intro hlt hs0))
  clear hD hn ha hh hO0 hE0 hlt hs0 hb0 hb1
  go_enter Try.func21, Try.ntmps21
  go_wp2
  clear hw0
  go_region_held3 (fun w' => w'.cell? ⟨w.heap.size, 0, none⟩ = some (.pointer (some ⟨d, 0, none⟩)) ∧ w'.cell? ⟨w.heap.size + 1, 0, none⟩ = some (.int .i64 (a : Int)))
    (first
      | (go_keep; done)
      | exact ⟨hX1.cell k0 (by simp), hX1.cell k1 (by simp)⟩
      | exact ⟨hX2.cell k0 (by simp), hX2.cell k1 (by simp)⟩
      | exact ⟨hX5.cell k0 (by have := HZ.out.2.1; simp; try omega), hX5.cell k1 (by have := HZ.out.2.1; simp; try omega)⟩)
    ((first
      | (go_at_call 64; refine (pm_is _ _).mono ?_; rintro e w1 ⟨rfl, hE1⟩; have hX1 : Ext [] W0 w1 := (by first | exact (Ext.refl [] W0).drew.trans hE1 | exact hX2.trans hE1))
      | (go_at_call 65; refine (pm_at _ _ _).mono ?_; rintro e w2 ⟨rfl, hE2, hO2⟩; have hX2 : Ext [] W0 w2 := (by first | exact (Ext.refl [] W0).drew.trans hE2 | exact hX1.trans hE2))
      | (go_at_call 61
         refine (asked2_u64_ok 67 #[.pointer (some ⟨w.heap.size, 0, none⟩), .pointer (some ⟨w.heap.size + 1, 0, none⟩)] _ _ _ _ _ _ (0, 0) (World.alloc_heap_new _ _) ?_ (enters_of Try.func107 (by kernel_rfl) rfl _) ?_ (enters_of Try.func67 (by kernel_rfl) rfl _) (fun W x w' => x = .int .u64 (D.S a) ∧ DevPost [] W d lb sb D w') ?_).mono ?_
         · (intro W hE; exact HN.out W (Ext.trans (by first | exact (hX1.trans hE2).alloc _ | exact (hX2.trans hE1).alloc _) hE))
         · (intro W hE; exact HA.out W _ _ (Ext.trans (by first | exact (hX1.trans hE2).alloc _ | exact (hX2.trans hE1).alloc _) hE) (Own2.ext (by first | exact hO2.ext ((Ext.refl [] w2).alloc _) (by simp) (by simp) | exact hO2.ext (hE1.alloc _) (by simp) (by simp)) hE (by simp) (by simp)))
         · (intro W hE; exact HT.out W (Ext.trans (by first | exact (hX1.trans hE2).alloc _ | exact (hX2.trans hE1).alloc _) hE))
         rintro e w5 ⟨x, W5, rfl, hE5, rfl, hP5⟩
         have hX5 : Ext [] W0 w5 := (Ext.wide (Ext.trans (by first | exact (hX1.trans hE2).alloc _ | exact (hX2.trans hE1).alloc _) hE5)).trans hP5.2)))
  all_goals go_wp2
  all_goals go_ret2
  all_goals exact ⟨rfl, hP5.1, HZ.out.1.wide.trans hX5⟩

set_option maxRecDepth 100000 in
set_option maxHeartbeats 2000000 in
theorem pm_Stays_out (d lb sb : Nat) (k : Int) (D : Dv) (w : World) (hD : DevAt w d lb sb D) (hn : DvOk D) (ha : k < 0 ∨ 8 * (D.n : Int) ≤ k) :
    Calls Try.prog 21 #[.pointer (some ⟨d, 0, none⟩), .int .i64 k] w fun e w' => e = .returned (.tuple #[.int .u64 0, .int .i64 4]) ∧ Ext [] w w' := by
  obtain ⟨W0, hw0⟩ : ∃ W0, (w.alloc (.cells #[.pointer (some ⟨d, 0, none⟩)] 26)).alloc (.cells #[.int .i64 k] 3) = W0 := ⟨_, rfl⟩
  have hE0 : Ext [] w W0 := by rw [← hw0]; exact ((Ext.refl _ _).alloc _).alloc _
  obtain ⟨hb0, hb1, hs0⟩ := al2_heap (w := w) #[.pointer (some ⟨d, 0, none⟩)] #[.int .i64 k] 26 3
  rw [hw0] at hb0 hb1 hs0
  have k0 := cell_of (j := 0) (v := .pointer (some ⟨d, 0, none⟩)) hb0 rfl
  have k1 := cell_of (j := 0) (v := .int .i64 k) hb1 rfl
  have HN := Lib.hid (fun W (hE : Ext [] W0 W) => pm_none d lb sb D W ((hD.ext0 hE0).ext0 hE))
  have hO0 : Own2 W0 w.heap.size (w.heap.size + 1) (.pointer (some ⟨d, 0, none⟩)) k := ⟨hb0, hb1⟩
  have hh : D.has k = false := by unfold Dv.has; simp; omega
  have HA := Lib.hid (fun W b1 b2 (hE : Ext [] W0 W) (hO : Own2 W b1 b2 (.pointer (some ⟨d, 0, none⟩)) k) => pm_at1 b1 b2 d lb sb k D W ((hD.ext0 hE0).ext0 hE) hn.n1 hO)
  rw [hh] at HA
  have hlt := hD.lt
  have HZ := Lib.hid (And.intro hE0 (And.intro hlt hs0))
  clear hD hn ha hh hO0 hE0 hlt hs0 hb0 hb1
  go_enter Try.func21, Try.ntmps21
  go_wp2
  clear hw0
  go_region_held3 (fun w' => w'.cell? ⟨w.heap.size, 0, none⟩ = some (.pointer (some ⟨d, 0, none⟩)) ∧ w'.cell? ⟨w.heap.size + 1, 0, none⟩ = some (.int .i64 k))
    (first
      | (go_keep; done)
      | exact ⟨hX1.cell k0 (by simp), hX1.cell k1 (by simp)⟩
      | exact ⟨hX2.cell k0 (by simp), hX2.cell k1 (by simp)⟩
      | exact ⟨hX5.cell k0 (by simp), hX5.cell k1 (by simp)⟩)
    ((first
      | (go_at_call 64; refine (pm_is _ _).mono ?_; rintro e w1 ⟨rfl, hE1⟩; have hX1 : Ext [] W0 w1 := (by first | exact (Ext.refl [] W0).drew.trans hE1 | exact hX2.trans hE1))
      | (go_at_call 65; refine (pm_at _ _ _).mono ?_; rintro e w2 ⟨rfl, hE2, hO2⟩; have hX2 : Ext [] W0 w2 := (by first | exact (Ext.refl [] W0).drew.trans hE2 | exact hX1.trans hE2))
      | (go_at_call 61
         refine (asked2_u64_bad 67 #[.pointer (some ⟨w.heap.size, 0, none⟩), .pointer (some ⟨w.heap.size + 1, 0, none⟩)] _ _ _ _ _ _ (0, 0) (World.alloc_heap_new _ _) ?_ (enters_of Try.func107 (by kernel_rfl) rfl _) ?_).mono ?_
         · (intro W hE; exact HN.out W (Ext.trans (by first | exact (hX1.trans hE2).alloc _ | exact (hX2.trans hE1).alloc _) hE))
         · (intro W hE; exact HA.out W _ _ (Ext.trans (by first | exact (hX1.trans hE2).alloc _ | exact (hX2.trans hE1).alloc _) hE) (Own2.ext (by first | exact hO2.ext ((Ext.refl [] w2).alloc _) (by simp) (by simp) | exact hO2.ext (hE1.alloc _) (by simp) (by simp)) hE (by simp) (by simp)))
         rintro e w5 ⟨rfl, hE5⟩
         have hX5 : Ext [] W0 w5 := Ext.trans (by first | exact (hX1.trans hE2).alloc _ | exact (hX2.trans hE1).alloc _) hE5)))
  all_goals go_wp2
  all_goals go_ret2
  all_goals exact ⟨rfl, HZ.out.1.trans hX5⟩

set_option maxRecDepth 100000 in
set_option maxHeartbeats 2000000 in
theorem pm_Stays_none (bo : Option Addr) (k : Int) (w : World) (hD : NoneD w (.pointer bo)) :
    Calls Try.prog 21 #[.pointer bo, .int .i64 k] w fun e w' => e = .returned (.tuple #[.int .u64 0, .int .i64 1]) ∧ Ext [] w w' := by
  obtain ⟨W0, hw0⟩ : ∃ W0, (w.alloc (.cells #[.pointer bo] 26)).alloc (.cells #[.int .i64 k] 3) = W0 := ⟨_, rfl⟩
  have hE0 : Ext [] w W0 := by rw [← hw0]; exact ((Ext.refl _ _).alloc _).alloc _
  obtain ⟨hb0, hb1, hs0⟩ := al2_heap (w := w) #[.pointer bo] #[.int .i64 k] 26 3
  rw [hw0] at hb0 hb1 hs0
  have k0 := cell_of (j := 0) (v := .pointer bo) hb0 rfl
  have k1 := cell_of (j := 0) (v := .int .i64 k) hb1 rfl
  have HN := Lib.hid (fun W (hE : Ext [] W0 W) => pm_isnone _ W ((hD.ext hE0).ext hE))
  have HZ := Lib.hid hE0
  clear hD hE0 hs0 hb0 hb1
  go_enter Try.func21, Try.ntmps21
  go_wp2
  clear hw0
  go_region_held3 (fun w' => w'.cell? ⟨w.heap.size, 0, none⟩ = some (.pointer bo) ∧ w'.cell? ⟨w.heap.size + 1, 0, none⟩ = some (.int .i64 k))
    (first
      | (go_keep; done)
      | exact ⟨hX1.cell k0 (by simp), hX1.cell k1 (by simp)⟩
      | exact ⟨hX2.cell k0 (by simp), hX2.cell k1 (by simp)⟩
      | exact ⟨hX5.cell k0 (by simp), hX5.cell k1 (by simp)⟩)
    ((first
      | (go_at_call 64; refine (pm_is _ _).mono ?_; rintro e w1 ⟨rfl, hE1⟩; have hX1 : Ext [] W0 w1 := (by first | exact (Ext.refl [] W0).drew.trans hE1 | exact hX2.trans hE1))
      | (go_at_call 65; refine (pm_at _ _ _).mono ?_; rintro e w2 ⟨rfl, hE2, hO2⟩; have hX2 : Ext [] W0 w2 := (by first | exact (Ext.refl [] W0).drew.trans hE2 | exact hX1.trans hE2))
      | (go_at_call 61
         refine (asked2_u64_nil 67 #[.pointer (some ⟨w.heap.size, 0, none⟩), .pointer (some ⟨w.heap.size + 1, 0, none⟩)] _ _ _ _ _ _ (0, 0) (World.alloc_heap_new _ _) ?_).mono ?_
         · (intro W hE; exact HN.out W (Ext.trans (by first | exact (hX1.trans hE2).alloc _ | exact (hX2.trans hE1).alloc _) hE))
         rintro e w5 ⟨rfl, hE5⟩
         have hX5 : Ext [] W0 w5 := Ext.trans (by first | exact (hX1.trans hE2).alloc _ | exact (hX2.trans hE1).alloc _) hE5)))
  all_goals go_wp2
  all_goals go_ret2
  all_goals exact ⟨rfl, HZ.out.trans hX5⟩

end Go.Proofs.Ytfojmjkcjdehaaa
namespace Go.Proofs.Ytfojmjkcjdehaaa
open Go Go.RowKit Go.Shelf
attribute [local go_sem] Oper.semAt_some

set_option maxRecDepth 100000 in
set_option maxHeartbeats 2000000 in
theorem pm_Store_in (d lb sb a : Nat) (v : Int) (D : Dv) (w : World) (hD : DevAt w d lb sb D) (hn : DvOk D) (ha : a < 8 * D.n) :
    Calls Try.prog 18 #[.pointer (some ⟨d, 0, none⟩), .int .i64 (a : Int), .int .u64 v] w fun e w' => e = .returned (.int .i64 0) ∧ DevPost [lb] w d lb sb (D.put a v) w' := by
  obtain ⟨W0, hw0⟩ : ∃ W0, ((w.alloc (.cells #[.pointer (some ⟨d, 0, none⟩)] 26)).alloc (.cells #[.int .i64 (a : Int)] 3)).alloc (.cells #[.int .u64 v] 23) = W0 := ⟨_, rfl⟩
  have hE0 : Ext [] w W0 := by rw [← hw0]; exact (((Ext.refl _ _).alloc _).alloc _).alloc _
  obtain ⟨hb0, hb1, hb2, hs0⟩ := al3_heap (w := w) #[.pointer (some ⟨d, 0, none⟩)] #[.int .i64 (a : Int)] #[.int .u64 v] 26 3 23
  rw [hw0] at hb0 hb1 hb2 hs0
  have k0 := cell_of (j := 0) (v := .pointer (some ⟨d, 0, none⟩)) hb0 rfl
  have k1 := cell_of (j := 0) (v := .int .i64 (a : Int)) hb1 rfl
  have HN := Lib.hid (fun W (hE : Ext [] W0 W) => pm_none d lb sb D W ((hD.ext0 hE0).ext0 hE))
  have hO0 : Own2 W0 w.heap.size (w.heap.size + 1) (.pointer (some ⟨d, 0, none⟩)) (a : Int) := ⟨hb0, hb1⟩
  have hh : D.has (a : Int) = true := by unfold Dv.has; simp; omega
  have HA := Lib.hid (fun W b1 b2 (hE : Ext [] W0 W) (hO : Own2 W b1 b2 (.pointer (some ⟨d, 0, none⟩)) (a : Int)) => pm_at1 b1 b2 d lb sb (a : Int) D W ((hD.ext0 hE0).ext0 hE) hn.n1 hO)
  rw [hh] at HA
  have HT : Hid (∀ W, Ext [] W0 W → Calls Try.prog 62 #[.pointer (some ⟨w.heap.size + 2, 0, none⟩), .pointer (some ⟨w.heap.size, 0, none⟩), .pointer (some ⟨w.heap.size + 1, 0, none⟩)] W fun e w' => ∃ x, e = .returned x ∧ x = .int .u64 v ∧ DevPost [lb] W d lb sb (D.put a v) w') := fun W hE => (pm_store1 (w.heap.size + 2) w.heap.size (w.heap.size + 1) d lb sb a v D W ((hD.ext0 hE0).ext0 hE) hn.n1 (hO0.ext hE (by simp) (by simp)) (hE.at hb2 (by simp)) ha).mono fun _ _ h => ⟨_, h.1, rfl, h.2⟩
  have hlt := hD.lt
  have HZ := Lib.hid (And.intro hE0 (And.intro hlt hs0))
  clear hD hn ha hh hO0 hE0 hlt hs0 hb0 hb1 hb2
  go_enter Try.func18, Try.ntmps18
  go_wp2
  clear hw0
  go_region_held3 (fun w' => w'.cell? ⟨w.heap.size, 0, none⟩ = some (.pointer (some ⟨d, 0, none⟩)) ∧ w'.cell? ⟨w.heap.size + 1, 0, none⟩ = some (.int .i64 (a : Int)))
    (first
      | (go_keep; done)
      | exact ⟨hX1.cell k0 (by simp), hX1.cell k1 (by simp)⟩
      | exact ⟨hX2.cell k0 (by simp), hX2.cell k1 (by simp)⟩
      | exact ⟨hX5.cell k0 (by have := HZ.out.2.1; simp; try omega), hX5.cell k1 (by have := HZ.out.2.1; simp; try omega)⟩)
    ((first
      | (go_at_call 64; refine (pm_is _ _).mono ?_; rintro e w1 ⟨rfl, hE1⟩; have hX1 : Ext [] W0 w1 := (by first | exact (Ext.refl [] W0).drew.trans hE1 | exact hX2.trans hE1))
      | (go_at_call 65; refine (pm_at _ _ _).mono ?_; rintro e w2 ⟨rfl, hE2, hO2⟩; have hX2 : Ext [] W0 w2 := (by first | exact (Ext.refl [] W0).drew.trans hE2 | exact hX1.trans hE2))
      | (go_at_call 61
         refine (asked2_u64_ok 62 #[.pointer (some ⟨w.heap.size + 2, 0, none⟩), .pointer (some ⟨w.heap.size, 0, none⟩), .pointer (some ⟨w.heap.size + 1, 0, none⟩)] _ _ _ _ _ _ (0, 0) (World.alloc_heap_new _ _) ?_ (enters_of Try.func107 (by kernel_rfl) rfl _) ?_ (enters_of Try.func62 (by kernel_rfl) rfl _) (fun W x w' => x = .int .u64 v ∧ DevPost [lb] W d lb sb (D.put a v) w') ?_).mono ?_
         · (intro W hE; exact HN.out W (Ext.trans (by first | exact (hX1.trans hE2).alloc _ | exact (hX2.trans hE1).alloc _) hE))
         · (intro W hE; exact HA.out W _ _ (Ext.trans (by first | exact (hX1.trans hE2).alloc _ | exact (hX2.trans hE1).alloc _) hE) (Own2.ext (by first | exact hO2.ext ((Ext.refl [] w2).alloc _) (by simp) (by simp) | exact hO2.ext (hE1.alloc _) (by simp) (by simp)) hE (by simp) (by simp)))
         · (intro W hE; exact HT.out W (Ext.trans (by first | exact (hX1.trans hE2).alloc _ | exact (hX2.trans hE1).alloc _) hE))
         rintro e w5 ⟨x, W5, rfl, hE5, rfl, hP5⟩
         have hX5 : Ext [lb] W0 w5 := (Ext.wide (Ext.trans (by first | exact (hX1.trans hE2).alloc _ | exact (hX2.trans hE1).alloc _) hE5)).trans hP5.2)))
  all_goals go_wp2
  all_goals go_ret
  all_goals exact ⟨rfl, hP5.1, HZ.out.1.wide.trans hX5⟩

set_option maxRecDepth 100000 in
set_option maxHeartbeats 2000000 in
theorem pm_Store_out (d lb sb : Nat) (k : Int) (v : Int) (D : Dv) (w : World) (hD : DevAt w d lb sb D) (hn : DvOk D) (ha : k < 0 ∨ 8 * (D.n : Int) ≤ k) :
    Calls Try.prog 18 #[.pointer (some ⟨d, 0, none⟩), .int .i64 k, .int .u64 v] w fun e w' => e = .returned (.int .i64 4) ∧ Ext [] w w' := by
  obtain ⟨W0, hw0⟩ : ∃ W0, ((w.alloc (.cells #[.pointer (some ⟨d, 0, none⟩)] 26)).alloc (.cells #[.int .i64 k] 3)).alloc (.cells #[.int .u64 v] 23) = W0 := ⟨_, rfl⟩
  have hE0 : Ext [] w W0 := by rw [← hw0]; exact (((Ext.refl _ _).alloc _).alloc _).alloc _
  obtain ⟨hb0, hb1, hb2, hs0⟩ := al3_heap (w := w) #[.pointer (some ⟨d, 0, none⟩)] #[.int .i64 k] #[.int .u64 v] 26 3 23
  rw [hw0] at hb0 hb1 hb2 hs0
  have k0 := cell_of (j := 0) (v := .pointer (some ⟨d, 0, none⟩)) hb0 rfl
  have k1 := cell_of (j := 0) (v := .int .i64 k) hb1 rfl
  have HN := Lib.hid (fun W (hE : Ext [] W0 W) => pm_none d lb sb D W ((hD.ext0 hE0).ext0 hE))
  have hO0 : Own2 W0 w.heap.size (w.heap.size + 1) (.pointer (some ⟨d, 0, none⟩)) k := ⟨hb0, hb1⟩
  have hh : D.has k = false := by unfold Dv.has; simp; omega
  have HA := Lib.hid (fun W b1 b2 (hE : Ext [] W0 W) (hO : Own2 W b1 b2 (.pointer (some ⟨d, 0, none⟩)) k) => pm_at1 b1 b2 d lb sb k D W ((hD.ext0 hE0).ext0 hE) hn.n1 hO)
  rw [hh] at HA
  have hlt := hD.lt
  have HZ := Lib.hid (And.intro hE0 (And.intro hlt hs0))
  clear hD hn ha hh hO0 hE0 hlt hs0 hb0 hb1 hb2
  go_enter Try.func18, Try.ntmps18
  go_wp2
  clear hw0
  go_region_held3 (fun w' => w'.cell? ⟨w.heap.size, 0, none⟩ = some (.pointer (some ⟨d, 0, none⟩)) ∧ w'.cell? ⟨w.heap.size + 1, 0, none⟩ = some (.int .i64 k))
    (first
      | (go_keep; done)
      | exact ⟨hX1.cell k0 (by simp), hX1.cell k1 (by simp)⟩
      | exact ⟨hX2.cell k0 (by simp), hX2.cell k1 (by simp)⟩
      | exact ⟨hX5.cell k0 (by simp), hX5.cell k1 (by simp)⟩)
    ((first
      | (go_at_call 64; refine (pm_is _ _).mono ?_; rintro e w1 ⟨rfl, hE1⟩; have hX1 : Ext [] W0 w1 := (by first | exact (Ext.refl [] W0).drew.trans hE1 | exact hX2.trans hE1))
      | (go_at_call 65; refine (pm_at _ _ _).mono ?_; rintro e w2 ⟨rfl, hE2, hO2⟩; have hX2 : Ext [] W0 w2 := (by first | exact (Ext.refl [] W0).drew.trans hE2 | exact hX1.trans hE2))
      | (go_at_call 61
         refine (asked2_u64_bad 62 #[.pointer (some ⟨w.heap.size + 2, 0, none⟩), .pointer (some ⟨w.heap.size, 0, none⟩), .pointer (some ⟨w.heap.size + 1, 0, none⟩)] _ _ _ _ _ _ (0, 0) (World.alloc_heap_new _ _) ?_ (enters_of Try.func107 (by kernel_rfl) rfl _) ?_).mono ?_
         · (intro W hE; exact HN.out W (Ext.trans (by first | exact (hX1.trans hE2).alloc _ | exact (hX2.trans hE1).alloc _) hE))
         · (intro W hE; exact HA.out W _ _ (Ext.trans (by first | exact (hX1.trans hE2).alloc _ | exact (hX2.trans hE1).alloc _) hE) (Own2.ext (by first | exact hO2.ext ((Ext.refl [] w2).alloc _) (by simp) (by simp) | exact hO2.ext (hE1.alloc _) (by simp) (by simp)) hE (by simp) (by simp)))
         rintro e w5 ⟨rfl, hE5⟩
         have hX5 : Ext [] W0 w5 := Ext.trans (by first | exact (hX1.trans hE2).alloc _ | exact (hX2.trans hE1).alloc _) hE5)))
  all_goals go_wp2
  all_goals go_ret
  all_goals exact ⟨rfl, HZ.out.1.trans hX5⟩

set_option maxRecDepth 100000 in
set_option maxHeartbeats 2000000 in
theorem pm_Store_none (bo : Option Addr) (k : Int) (v : Int) (w : World) (hD : NoneD w (.pointer bo)) :
    Calls Try.prog 18 #[.pointer bo, .int .i64 k, .int .u64 v] w fun e w' => e = .returned (.int .i64 1) ∧ Ext [] w w' := by
  obtain ⟨W0, hw0⟩ : ∃ W0, ((w.alloc (.cells #[.pointer bo] 26)).alloc (.cells #[.int .i64 k] 3)).alloc (.cells #[.int .u64 v] 23) = W0 := ⟨_, rfl⟩
  have hE0 : Ext [] w W0 := by rw [← hw0]; exact (((Ext.refl _ _).alloc _).alloc _).alloc _
  obtain ⟨hb0, hb1, hb2, hs0⟩ := al3_heap (w := w) #[.pointer bo] #[.int .i64 k] #[.int .u64 v] 26 3 23
  rw [hw0] at hb0 hb1 hb2 hs0
  have k0 := cell_of (j := 0) (v := .pointer bo) hb0 rfl
  have k1 := cell_of (j := 0) (v := .int .i64 k) hb1 rfl
  have HN := Lib.hid (fun W (hE : Ext [] W0 W) => pm_isnone _ W ((hD.ext hE0).ext hE))
  have HZ := Lib.hid hE0
  clear hD hE0 hs0 hb0 hb1 hb2
  go_enter Try.func18, Try.ntmps18
  go_wp2
  clear hw0
  go_region_held3 (fun w' => w'.cell? ⟨w.heap.size, 0, none⟩ = some (.pointer bo) ∧ w'.cell? ⟨w.heap.size + 1, 0, none⟩ = some (.int .i64 k))
    (first
      | (go_keep; done)
      | exact ⟨hX1.cell k0 (by simp), hX1.cell k1 (by simp)⟩
      | exact ⟨hX2.cell k0 (by simp), hX2.cell k1 (by simp)⟩
      | exact ⟨hX5.cell k0 (by simp), hX5.cell k1 (by simp)⟩)
    ((first
      | (go_at_call 64; refine (pm_is _ _).mono ?_; rintro e w1 ⟨rfl, hE1⟩; have hX1 : Ext [] W0 w1 := (by first | exact (Ext.refl [] W0).drew.trans hE1 | exact hX2.trans hE1))
      | (go_at_call 65; refine (pm_at _ _ _).mono ?_; rintro e w2 ⟨rfl, hE2, hO2⟩; have hX2 : Ext [] W0 w2 := (by first | exact (Ext.refl [] W0).drew.trans hE2 | exact hX1.trans hE2))
      | (go_at_call 61
         refine (asked2_u64_nil 62 #[.pointer (some ⟨w.heap.size + 2, 0, none⟩), .pointer (some ⟨w.heap.size, 0, none⟩), .pointer (some ⟨w.heap.size + 1, 0, none⟩)] _ _ _ _ _ _ (0, 0) (World.alloc_heap_new _ _) ?_).mono ?_
         · (intro W hE; exact HN.out W (Ext.trans (by first | exact (hX1.trans hE2).alloc _ | exact (hX2.trans hE1).alloc _) hE))
         rintro e w5 ⟨rfl, hE5⟩
         have hX5 : Ext [] W0 w5 := Ext.trans (by first | exact (hX1.trans hE2).alloc _ | exact (hX2.trans hE1).alloc _) hE5)))
  all_goals go_wp2
  all_goals go_ret
  all_goals exact ⟨rfl, HZ.out.trans hX5⟩

set_option maxRecDepth 100000 in
set_option maxHeartbeats 2000000 in
theorem pm_Swap_in (d lb sb a : Nat) (fr : Int) (to : Int) (D : Dv) (w : World) (hD : DevAt w d lb sb D) (hn : DvOk D) (ha : a < 8 * D.n) :
    Calls Try.prog 28 #[.pointer (some ⟨d, 0, none⟩), .int .i64 (a : Int), .int .u64 fr, .int .u64 to] w fun e w' => e = .returned (.tuple #[.bool (D.L a == fr), .int .i64 0]) ∧ DevPost [lb] w d lb sb (D.swapTo a fr to) w' := by
  obtain ⟨W0, hw0⟩ : ∃ W0, (((w.alloc (.cells #[.pointer (some ⟨d, 0, none⟩)] 26)).alloc (.cells #[.int .i64 (a : Int)] 3)).alloc (.cells #[.int .u64 fr] 23)).alloc (.cells #[.int .u64 to] 23) = W0 := ⟨_, rfl⟩
  have hE0 : Ext [] w W0 := by rw [← hw0]; exact ((((Ext.refl _ _).alloc _).alloc _).alloc _).alloc _
  obtain ⟨hb0, hb1, hb2, hb3, hs0⟩ := al4_heap (w := w) #[.pointer (some ⟨d, 0, none⟩)] #[.int .i64 (a : Int)] #[.int .u64 fr] #[.int .u64 to] 26 3 23 23
  rw [hw0] at hb0 hb1 hb2 hb3 hs0
  have k0 := cell_of (j := 0) (v := .pointer (some ⟨d, 0, none⟩)) hb0 rfl
  have k1 := cell_of (j := 0) (v := .int .i64 (a : Int)) hb1 rfl
  have HN := Lib.hid (fun W (hE : Ext [] W0 W) => pm_none d lb sb D W ((hD.ext0 hE0).ext0 hE))
  have hO0 : Own2 W0 w.heap.size (w.heap.size + 1) (.pointer (some ⟨d, 0, none⟩)) (a : Int) := ⟨hb0, hb1⟩
  have hh : D.has (a : Int) = true := by unfold Dv.has; simp; omega
  have HA := Lib.hid (fun W b1 b2 (hE : Ext [] W0 W) (hO : Own2 W b1 b2 (.pointer (some ⟨d, 0, none⟩)) (a : Int)) => pm_at1 b1 b2 d lb sb (a : Int) D W ((hD.ext0 hE0).ext0 hE) hn.n1 hO)
  rw [hh] at HA
  have HT : Hid (∀ W, Ext [] W0 W → Calls Try.prog 80 #[.pointer (some ⟨w.heap.size, 0, none⟩), .pointer (some ⟨w.heap.size + 1, 0, none⟩), .pointer (some ⟨w.heap.size + 2, 0, none⟩), .pointer (some ⟨w.heap.size + 3, 0, none⟩)] W fun e w' => ∃ x, e = .returned x ∧ x = .bool (D.L a == fr) ∧ DevPost [lb] W d lb sb (D.swapTo a fr to) w') := fun W hE => (pm_swap1 w.heap.size (w.heap.size + 1) (w.heap.size + 2) (w.heap.size + 3) d lb sb a fr to D W ((hD.ext0 hE0).ext0 hE) hn.n1 ⟨hO0.ext hE (by simp) (by simp), hE.at hb2 (by simp), hE.at hb3 (by simp)⟩ ha).mono fun _ _ h => ⟨_, h.1, rfl, h.2⟩
  have hlt := hD.lt
  have HZ := Lib.hid (And.intro hE0 (And.intro hlt hs0))
  clear hD hn ha hh hO0 hE0 hlt hs0 hb0 hb1 hb2 hb3
  go_enter Try.func28, Try.ntmps28
  go_wp2
  clear hw0
  go_region_held3 (fun w' => w'.cell? ⟨w.heap.size, 0, none⟩ = some (.pointer (some ⟨d, 0, none⟩)) ∧ w'.cell? ⟨w.heap.size + 1, 0, none⟩ = some (.int .i64 (a : Int)))
    (first
      | (go_keep; done)
      | exact ⟨hX1.cell k0 (by simp), hX1.cell k1 (by simp)⟩
      | exact ⟨hX2.cell k0 (by simp), hX2.cell k1 (by simp)⟩
      | exact ⟨hX5.cell k0 (by have := HZ.out.2.1; simp; try omega), hX5.cell k1 (by have := HZ.out.2.1; simp; try omega)⟩)
    ((first
      | (go_at_call 64; refine (pm_is _ _).mono ?_; rintro e w1 ⟨rfl, hE1⟩; have hX1 : Ext [] W0 w1 := (by first | exact (Ext.refl [] W0).drew.trans hE1 | exact hX2.trans hE1))
      | (go_at_call 65; refine (pm_at _ _ _).mono ?_; rintro e w2 ⟨rfl, hE2, hO2⟩; have hX2 : Ext [] W0 w2 := (by first | exact (Ext.refl [] W0).drew.trans hE2 | exact hX1.trans hE2))
      | (go_at_call 79
         refine (asked2_bool_ok 80 #[.pointer (some ⟨w.heap.size, 0, none⟩), .pointer (some ⟨w.heap.size + 1, 0, none⟩), .pointer (some ⟨w.heap.size + 2, 0, none⟩), .pointer (some ⟨w.heap.size + 3, 0, none⟩)] _ _ _ _ _ _ (0, 0) (World.alloc_heap_new _ _) ?_ (enters_of Try.func107 (by kernel_rfl) rfl _) ?_ (enters_of Try.func80 (by kernel_rfl) rfl _) (fun W x w' => x = .bool (D.L a == fr) ∧ DevPost [lb] W d lb sb (D.swapTo a fr to) w') ?_).mono ?_
         · (intro W hE; exact HN.out W (Ext.trans (by first | exact (hX1.trans hE2).alloc _ | exact (hX2.trans hE1).alloc _) hE))
         · (intro W hE; exact HA.out W _ _ (Ext.trans (by first | exact (hX1.trans hE2).alloc _ | exact (hX2.trans hE1).alloc _) hE) (Own2.ext (by first | exact hO2.ext ((Ext.refl [] w2).alloc _) (by simp) (by simp) | exact hO2.ext (hE1.alloc _) (by simp) (by simp)) hE (by simp) (by simp)))
         · (intro W hE; exact HT.out W (Ext.trans (by first | exact (hX1.trans hE2).alloc _ | exact (hX2.trans hE1).alloc _) hE))
         rintro e w5 ⟨x, W5, rfl, hE5, rfl, hP5⟩
         have hX5 : Ext [lb] W0 w5 := (Ext.wide (Ext.trans (by first | exact (hX1.trans hE2).alloc _ | exact (hX2.trans hE1).alloc _) hE5)).trans hP5.2)))
  all_goals go_wp2
  all_goals go_ret2
  all_goals exact ⟨rfl, hP5.1, HZ.out.1.wide.trans hX5⟩

set_option maxRecDepth 100000 in
set_option maxHeartbeats 2000000 in
theorem pm_Swap_out (d lb sb : Nat) (k : Int) (fr : Int) (to : Int) (D : Dv) (w : World) (hD : DevAt w d lb sb D) (hn : DvOk D) (ha : k < 0 ∨ 8 * (D.n : Int) ≤ k) :
    Calls Try.prog 28 #[.pointer (some ⟨d, 0, none⟩), .int .i64 k, .int .u64 fr, .int .u64 to] w fun e w' => e = .returned (.tuple #[.bool false, .int .i64 4]) ∧ Ext [] w w' := by
  obtain ⟨W0, hw0⟩ : ∃ W0, (((w.alloc (.cells #[.pointer (some ⟨d, 0, none⟩)] 26)).alloc (.cells #[.int .i64 k] 3)).alloc (.cells #[.int .u64 fr] 23)).alloc (.cells #[.int .u64 to] 23) = W0 := ⟨_, rfl⟩
  have hE0 : Ext [] w W0 := by rw [← hw0]; exact ((((Ext.refl _ _).alloc _).alloc _).alloc _).alloc _
  obtain ⟨hb0, hb1, hb2, hb3, hs0⟩ := al4_heap (w := w) #[.pointer (some ⟨d, 0, none⟩)] #[.int .i64 k] #[.int .u64 fr] #[.int .u64 to] 26 3 23 23
  rw [hw0] at hb0 hb1 hb2 hb3 hs0
  have k0 := cell_of (j := 0) (v := .pointer (some ⟨d, 0, none⟩)) hb0 rfl
  have k1 := cell_of (j := 0) (v := .int .i64 k) hb1 rfl
  have HN := Lib.hid (fun W (hE : Ext [] W0 W) => pm_none d lb sb D W ((hD.ext0 hE0).ext0 hE))
  have hO0 : Own2 W0 w.heap.size (w.heap.size + 1) (.pointer (some ⟨d, 0, none⟩)) k := ⟨hb0, hb1⟩
  have hh : D.has k = false := by unfold Dv.has; simp; omega
  have HA := Lib.hid (fun W b1 b2 (hE : Ext [] W0 W) (hO : Own2 W b1 b2 (.pointer (some ⟨d, 0, none⟩)) k) => pm_at1 b1 b2 d lb sb k D W ((hD.ext0 hE0).ext0 hE) hn.n1 hO)
  rw [hh] at HA
  have hlt := hD.lt
  have HZ := Lib.hid (And.intro hE0 (And.intro hlt hs0))
  clear hD hn ha hh hO0 hE0 hlt hs0 hb0 hb1 hb2 hb3
  go_enter Try.func28, Try.ntmps28
  go_wp2
  clear hw0
  go_region_held3 (fun w' => w'.cell? ⟨w.heap.size, 0, none⟩ = some (.pointer (some ⟨d, 0, none⟩)) ∧ w'.cell? ⟨w.heap.size + 1, 0, none⟩ = some (.int .i64 k))
    (first
      | (go_keep; done)
      | exact ⟨hX1.cell k0 (by simp), hX1.cell k1 (by simp)⟩
      | exact ⟨hX2.cell k0 (by simp), hX2.cell k1 (by simp)⟩
      | exact ⟨hX5.cell k0 (by simp), hX5.cell k1 (by simp)⟩)
    ((first
      | (go_at_call 64; refine (pm_is _ _).mono ?_; rintro e w1 ⟨rfl, hE1⟩; have hX1 : Ext [] W0 w1 := (by first | exact (Ext.refl [] W0).drew.trans hE1 | exact hX2.trans hE1))
      | (go_at_call 65; refine (pm_at _ _ _).mono ?_; rintro e w2 ⟨rfl, hE2, hO2⟩; have hX2 : Ext [] W0 w2 := (by first | exact (Ext.refl [] W0).drew.trans hE2 | exact hX1.trans hE2))
      | (go_at_call 79
         refine (asked2_bool_bad 80 #[.pointer (some ⟨w.heap.size, 0, none⟩), .pointer (some ⟨w.heap.size + 1, 0, none⟩), .pointer (some ⟨w.heap.size + 2, 0, none⟩), .pointer (some ⟨w.heap.size + 3, 0, none⟩)] _ _ _ _ _ _ (0, 0) (World.alloc_heap_new _ _) ?_ (enters_of Try.func107 (by kernel_rfl) rfl _) ?_).mono ?_
         · (intro W hE; exact HN.out W (Ext.trans (by first | exact (hX1.trans hE2).alloc _ | exact (hX2.trans hE1).alloc _) hE))
         · (intro W hE; exact HA.out W _ _ (Ext.trans (by first | exact (hX1.trans hE2).alloc _ | exact (hX2.trans hE1).alloc _) hE) (Own2.ext (by first | exact hO2.ext ((Ext.refl [] w2).alloc _) (by simp) (by simp) | exact hO2.ext (hE1.alloc _) (by simp) (by simp)) hE (by simp) (by simp)))
         rintro e w5 ⟨rfl, hE5⟩
         have hX5 : Ext [] W0 w5 := Ext.trans (by first | exact (hX1.trans hE2).alloc _ | exact (hX2.trans hE1).alloc _) hE5)))
  all_goals go_wp2
  all_goals go_ret2
  all_goals exact ⟨rfl, HZ.out.1.trans hX5⟩

set_option maxRecDepth 100000 in
set_option maxHeartbeats 2000000 in
theorem pm_Swap_none (bo : Option Addr) (k : Int) (fr : Int) (to : Int) (w : World) (hD : NoneD w (.pointer bo)) :
    Calls Try.prog 28 #[.pointer bo, .int .i64 k, .int .u64 fr, .int .u64 to] w fun e w' => e = .returned (.tuple #[.bool false, .int .i64 1]) ∧ Ext [] w w' := by
  obtain ⟨W0, hw0⟩ : ∃ W0, (((w.alloc (.cells #[.pointer bo] 26)).alloc (.cells #[.int .i64 k] 3)).alloc (.cells #[.int .u64 fr] 23)).alloc (.cells #[.int .u64 to] 23) = W0 := ⟨_, rfl⟩
  have hE0 : Ext [] w W0 := by rw [← hw0]; exact ((((Ext.refl _ _).alloc _).alloc _).alloc _).alloc _
  obtain ⟨hb0, hb1, hb2, hb3, hs0⟩ := al4_heap (w := w) #[.pointer bo] #[.int .i64 k] #[.int .u64 fr] #[.int .u64 to] 26 3 23 23
  rw [hw0] at hb0 hb1 hb2 hb3 hs0
  have k0 := cell_of (j := 0) (v := .pointer bo) hb0 rfl
  have k1 := cell_of (j := 0) (v := .int .i64 k) hb1 rfl
  have HN := Lib.hid (fun W (hE : Ext [] W0 W) => pm_isnone _ W ((hD.ext hE0).ext hE))
  have HZ := Lib.hid hE0
  clear hD hE0 hs0 hb0 hb1 hb2 hb3
  go_enter Try.func28, Try.ntmps28
  go_wp2
  clear hw0
  go_region_held3 (fun w' => w'.cell? ⟨w.heap.size, 0, none⟩ = some (.pointer bo) ∧ w'.cell? ⟨w.heap.size + 1, 0, none⟩ = some (.int .i64 k))
    (first
      | (go_keep; done)
      | exact ⟨hX1.cell k0 (by simp), hX1.cell k1 (by simp)⟩
      | exact ⟨hX2.cell k0 (by simp), hX2.cell k1 (by simp)⟩
      | exact ⟨hX5.cell k0 (by simp), hX5.cell k1 (by simp)⟩)
    ((first
      | (go_at_call 64; refine (pm_is _ _).mono ?_; rintro e w1 ⟨rfl, hE1⟩; have hX1 : Ext [] W0 w1 := (by first | exact (Ext.refl [] W0).drew.trans hE1 | exact hX2.trans hE1))
      | (go_at_call 65; refine (pm_at _ _ _).mono ?_; rintro e w2 ⟨rfl, hE2, hO2⟩; have hX2 : Ext [] W0 w2 := (by first | exact (Ext.refl [] W0).drew.trans hE2 | exact hX1.trans hE2))
      | (go_at_call 79
         refine (asked2_bool_nil 80 #[.pointer (some ⟨w.heap.size, 0, none⟩), .pointer (some ⟨w.heap.size + 1, 0, none⟩), .pointer (some ⟨w.heap.size + 2, 0, none⟩), .pointer (some ⟨w.heap.size + 3, 0, none⟩)] _ _ _ _ _ _ (0, 0) (World.alloc_heap_new _ _) ?_).mono ?_
         · (intro W hE; exact HN.out W (Ext.trans (by first | exact (hX1.trans hE2).alloc _ | exact (hX2.trans hE1).alloc _) hE))
         rintro e w5 ⟨rfl, hE5⟩
         have hX5 : Ext [] W0 w5 := Ext.trans (by first | exact (hX1.trans hE2).alloc _ | exact (hX2.trans hE1).alloc _) hE5)))
  all_goals go_wp2
  all_goals go_ret2
  all_goals exact ⟨rfl, HZ.out.trans hX5⟩

end Go.Proofs.Ytfojmjkcjdehaaa
