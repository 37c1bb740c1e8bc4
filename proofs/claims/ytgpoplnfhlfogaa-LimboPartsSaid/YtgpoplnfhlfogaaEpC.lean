/- Clock.Pin and Clock.Unpin: what they answer, and how the clock stands then. -/
import Derived.Test.YtgpoplnfhlfogaaEpB
import Derived.Shelf.Abstract
namespace Go.Proofs.Ytgpoplnfhlfogaa
open Go Go.RowKit

def pinErr (l : Ents) (t : Int) : Int := if t < 0 ∨ 8 ≤ t then 2 else if (look l t).isSome then 240 else 0
def unpinErr (l : Ents) (t : Int) : Int := if t < 0 ∨ 8 ≤ t then 2 else if (look l t).isNone then 5 else 0

set_option maxRecDepth 100000 in
set_option maxHeartbeats 2000000 in
theorem ep_pin (c m : Nat) (now : Int) (l : Ents) (t : Int) (w : World) (h : Clk w c m now l) :
    Calls Try.prog 15 #[.pointer (some ⟨c, 0, none⟩), .int .i64 t] w fun e w' =>
      e = .returned (.tuple #[.int .i64 (if pinErr l t = 0 then now else 0), .int .i64 (pinErr l t)]) ∧ Ext [m] w w' ∧
      Clk w' c m now (if pinErr l t = 0 then upd l t (.int .i64 now) else l) := by
  have H := Lib.hid h
  clear h
  go_enter Try.func15, Try.ntmps15
  go_wp2_with fail
  have hs1 : (w.alloc (.cells #[.pointer (some ⟨c, 0, none⟩)] 24)).heap.size = w.heap.size + 1 := World.size_alloc _ _
  have hown := World.alloc_heap_new ((w.alloc (.cells #[.pointer (some ⟨c, 0, none⟩)] 24)).alloc (.cells #[.int .i64 t] 3)) (.cells #[.func (.func 63) #[] #[.pointer (some ⟨w.heap.size, 0, none⟩), .pointer (some ⟨w.heap.size + 1, 0, none⟩)], .int .i64 240] 107)
  rw [World.size_alloc, hs1] at hown
  have k1 : (((w.alloc (.cells #[.pointer (some ⟨c, 0, none⟩)] 24)).alloc (.cells #[.int .i64 t] 3)).alloc (.cells #[.func (.func 63) #[] #[.pointer (some ⟨w.heap.size, 0, none⟩), .pointer (some ⟨w.heap.size + 1, 0, none⟩)], .int .i64 240] 107)).cell? ⟨w.heap.size, 0, none⟩ = some (.pointer (some ⟨c, 0, none⟩)) := cell_al (cell_al (by simp [go_sem]))
  have k2 : (((w.alloc (.cells #[.pointer (some ⟨c, 0, none⟩)] 24)).alloc (.cells #[.int .i64 t] 3)).alloc (.cells #[.func (.func 63) #[] #[.pointer (some ⟨w.heap.size, 0, none⟩), .pointer (some ⟨w.heap.size + 1, 0, none⟩)], .int .i64 240] 107)).cell? ⟨w.heap.size + 1, 0, none⟩ = some (.int .i64 t) := cell_al (by rw [← hs1]; simp [go_sem])
  refine (ep_asked c m t (w.heap.size + 1 + 1) 63 #[.pointer (some ⟨w.heap.size, 0, none⟩), .pointer (some ⟨w.heap.size + 1, 0, none⟩)] 240 (look l t).isSome _ (0, 0) 107 ?a1 hown (enters_of Try.func63 (by kernel_rfl) rfl _) ?a4).mono ?a5
  case a1 => exact cell_al (cell_al (cell_al H.out.c1))
  case a4 =>
    intro W hE
    have hE' := (((Ext.refl [] w).alloc _).alloc _).alloc _ |>.trans hE
    exact ep_pin1 c m now l t _ _ W (H.out.ext hE' (by simp) (by simp)) (hE.cell k1 (by simp)) (hE.cell k2 (by simp))
  rintro e W1 ⟨rfl, hE⟩
  rw [show (if t < 0 ∨ 8 ≤ t then (2 : Int) else if (look l t).isSome = true then 240 else 0) = pinErr l t from rfl]
  have hE' := (((Ext.refl [] w).alloc _).alloc _).alloc _ |>.trans hE
  have hc := H.out.ext hE' (by simp) (by simp)
  have q1 := hE.cell k1 (by simp)
  have q2 := hE.cell k2 (by simp)
  have p0 := hc.c0
  have p1 := hc.c1
  have hfz := hc.fz 0
  clear hown k1 k2 hE
  by_cases hz : pinErr l t = 0
  · have HZ := Lib.hid hz
    rw [hz]
    clear hz
    obtain ⟨W2, hset, hE2, hm, hs2⟩ := run_mapSet' (P := Try.prog) 42 3 3 Try.underlying42 Try.underlying3 hc.2.drew t (.int .i64 now)
    have hE3 : Ext [m] W1 W2 := (Ext.refl _ W1).drew.trans hE2
    have hcm : c ≠ m := fun e => hc.ne e.symm
    have r0 : W2.cell? ⟨c, 0, none⟩ = some (.int .i64 now) := hE3.cell p0 (by simp [hcm])
    have r1 := hE3.cell q1 (by simpa using fun e => hc.2.notcell q1 e.symm)
    have hfin : Ext [m] w W2 ∧ Clk W2 c m now (upd l t (.int .i64 now)) := ⟨hE'.wide.trans hE3, hE3.at hc.1 (by simp [hcm]), hm⟩
    have HF := Lib.hid hfin
    clear hc hm hfin hE3 hcm hE' hE2 hs2
    go_wp2
    go_still_tail 9, (by kernel_rfl)
    change wpList _ _ _ _ _ W1.drew
    go_wp2
    go_ret2
    exact ⟨rfl, HF.out.1, HF.out.2⟩
  · have hb : (pinErr l t == 0) = false := by simpa using hz
    have HZ := Lib.hid hz
    clear hz
    have HC := Lib.hid hc
    clear hc
    go_wp2
    go_ret2
    exact ⟨rfl, hE'.wide, HC.out⟩
set_option maxRecDepth 100000 in
set_option maxHeartbeats 2000000 in
theorem ep_unpin (c m : Nat) (now : Int) (l : Ents) (t : Int) (w : World) (h : Clk w c m now l) :
    Calls Try.prog 16 #[.pointer (some ⟨c, 0, none⟩), .int .i64 t] w fun e w' =>
      e = .returned (.int .i64 (unpinErr l t)) ∧ Ext [m] w w' ∧
      Clk w' c m now (if unpinErr l t = 0 then del l t else l) := by
  have H := Lib.hid h
  clear h
  go_enter Try.func16, Try.ntmps16
  go_wp2_with fail
  have hs1 : (w.alloc (.cells #[.pointer (some ⟨c, 0, none⟩)] 24)).heap.size = w.heap.size + 1 := World.size_alloc _ _
  have hown := World.alloc_heap_new ((w.alloc (.cells #[.pointer (some ⟨c, 0, none⟩)] 24)).alloc (.cells #[.int .i64 t] 3)) (.cells #[.func (.func 65) #[] #[.pointer (some ⟨w.heap.size, 0, none⟩), .pointer (some ⟨w.heap.size + 1, 0, none⟩)], .int .i64 5] 107)
  rw [World.size_alloc, hs1] at hown
  have k1 : (((w.alloc (.cells #[.pointer (some ⟨c, 0, none⟩)] 24)).alloc (.cells #[.int .i64 t] 3)).alloc (.cells #[.func (.func 65) #[] #[.pointer (some ⟨w.heap.size, 0, none⟩), .pointer (some ⟨w.heap.size + 1, 0, none⟩)], .int .i64 5] 107)).cell? ⟨w.heap.size, 0, none⟩ = some (.pointer (some ⟨c, 0, none⟩)) := cell_al (cell_al (by simp [go_sem]))
  have k2 : (((w.alloc (.cells #[.pointer (some ⟨c, 0, none⟩)] 24)).alloc (.cells #[.int .i64 t] 3)).alloc (.cells #[.func (.func 65) #[] #[.pointer (some ⟨w.heap.size, 0, none⟩), .pointer (some ⟨w.heap.size + 1, 0, none⟩)], .int .i64 5] 107)).cell? ⟨w.heap.size + 1, 0, none⟩ = some (.int .i64 t) := cell_al (by rw [← hs1]; simp [go_sem])
  refine (ep_asked c m t (w.heap.size + 1 + 1) 65 #[.pointer (some ⟨w.heap.size, 0, none⟩), .pointer (some ⟨w.heap.size + 1, 0, none⟩)] 5 (look l t).isNone _ (0, 0) 107 ?a1 hown (enters_of Try.func65 (by kernel_rfl) rfl _) ?a4).mono ?a5
  case a1 => exact cell_al (cell_al (cell_al H.out.c1))
  case a4 =>
    intro W hE
    have hE' := (((Ext.refl [] w).alloc _).alloc _).alloc _ |>.trans hE
    exact ep_unpin1 c m now l t _ _ W (H.out.ext hE' (by simp) (by simp)) (hE.cell k1 (by simp)) (hE.cell k2 (by simp))
  rintro e W1 ⟨rfl, hE⟩
  rw [show (if t < 0 ∨ 8 ≤ t then (2 : Int) else if (look l t).isNone = true then 5 else 0) = unpinErr l t from rfl]
  have hE' := (((Ext.refl [] w).alloc _).alloc _).alloc _ |>.trans hE
  have hc := H.out.ext hE' (by simp) (by simp)
  have q1 := hE.cell k1 (by simp)
  have q2 := hE.cell k2 (by simp)
  have p1 := hc.c1
  clear hown k1 k2 hE
  by_cases hz : unpinErr l t = 0
  · have HZ := Lib.hid hz
    rw [hz]
    clear hz
    obtain ⟨W2, hset, hE2, hm, hs2⟩ := run_mapDel' (P := Try.prog) 42 3 3 0 #[42, 3] rfl Try.underlying42 Try.underlying3 hc.2.drew t
    have hE3 : Ext [m] W1 W2 := (Ext.refl _ W1).drew.trans hE2
    have hcm : c ≠ m := fun e => hc.ne e.symm
    have hfin : Ext [m] w W2 ∧ Clk W2 c m now (del l t) := ⟨hE'.wide.trans hE3, hE3.at hc.1 (by simp [hcm]), hm⟩
    have HF := Lib.hid hfin
    clear hc hm hfin hE3 hcm hE' hE2 hs2
    go_wp2
    go_still_tail 5, (by kernel_rfl)
    change wpList _ _ _ _ _ W1.drew
    go_wp2
    go_ret
    exact ⟨rfl, HF.out.1, HF.out.2⟩
  · have hb : (unpinErr l t == 0) = false := by simpa using hz
    have HZ := Lib.hid hz
    clear hz
    have HC := Lib.hid hc
    clear hc
    go_wp2
    go_ret
    exact ⟨rfl, hE'.wide, HC.out⟩
end Go.Proofs.Ytgpoplnfhlfogaa
