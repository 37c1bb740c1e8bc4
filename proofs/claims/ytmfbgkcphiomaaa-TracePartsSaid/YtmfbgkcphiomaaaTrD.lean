/- Package trace: the keys of a map, rising. -/
import Derived.Test.YtmfbgkcphiomaaaTrC
import Derived.Test.YtmfbgkcphiomaaaIvl
import Derived.Shelf.SortM.Plain
import Derived.Shelf.SortM.SortNone
import Derived.Ground.GgzProg
import Derived.Ground.SlgmProg
import Derived.StillTailTactics
namespace Go.Proofs.Ytmfbgkcphiomaaa
open Go Go.RowKit Go.Maps Go.Sort Go.Shelf

shelf_lay_g SlLaysZI.n7 Ggz 7 at Try 44 as keysA
shelf_lay_g SlLaysZI.n7 Ggz 7 at Try 52 as keysB
shelf_lay_g SlLaysZI.n7 Ggz 7 at Try 57 as keysC
shelf_lay_g SlLaysZI.n6 Ggz 6 at Try 43 as sortedA
shelf_lay_g SlLaysM.n5 Slgm 5 at Try 54 as sortA

theorem sortsA (m : Nat) : AnyZI.SortsIn Try.prog sortedA_ren Fence.wide m :=
  ⟨fun blk off cap ss W hH hblk hsz => callsIn_wide.2 (AnyM.slices_Sort_int sortA blk off cap ss W hH hblk hsz),
   fun p cap W => callsIn_wide.2 (AnyM.slices_Sort_int_none sortA p cap W)⟩

set_option maxHeartbeats 1000000 in
theorem tr_sortedA (b : Nat) (l : Ents) (w : World) (h : IMap w b l) (hl : l.length ≤ 1000000) (hw : ∀ p ∈ l, (Lit.int .i64 p.1).wf = true) :
    Calls Try.prog 30 #[.map (some b)] w fun e w' => ∃ ao cap, e = .returned (.slice ao (sortK l).length cap) ∧ IntsAt w' ao (sortK l) ∧ Ext [] w w' ∧ (∀ p, ao = some p → w.heap.size ≤ p.block ∧ p.block < w'.heap.size) := by
  obtain ⟨D0, hown, hperm, hsz⟩ := h.owns (P := Try.prog) 3 Try.underlying3 (by unfold maxLen; omega) hw
  have hmax : Maps.size D0 ≤ maxLen := by rw [hsz]; unfold maxLen; omega
  have hbytes : Maps.size D0 * 8 ≤ 140737488355328 := by rw [hsz]; omega
  refine (callsIn_wide (n := 6)).1 ?_
  have hbl := hown.lt
  have hseq : SeqGives Fence.wide 2 Try.prog 55 #[.pointer (some ⟨w.heap.size, 0, none⟩)] encZ (fun ss => ss.Perm (intKeys D0)) (Maps.size D0) (w.alloc (.cells #[.map (some b)] 61)) :=
    AnyZI.keys_gives (ρ := keysA_ren) { keysA with } Fence.wide _ trivial rfl (by omega) w.heap.size b l.length D0 _ (by simp) (by simp) (by
      obtain ⟨es, clock, hb, Ft, hs, hD⟩ := hown
      exact ⟨es, clock, (Below.heap_alloc _ _ b hbl).trans hb, Ft, hs, hD⟩)
  have cK : ∀ mb W, CallsIn Fence.wide 5 Try.prog 44 #[.map mb] W fun e w' => e = .returned (.func (.func 55) #[] #[.pointer (some ⟨W.heap.size, 0, none⟩)]) ∧ w' = W.alloc (.cells #[.map mb] 61) := fun mb W => AnyZI.keys_in keysA Fence.wide 5 trivial rfl mb W
  have cS := AnyZI.sorted_in sortedA Fence.wide 5 trivial trivial trivial trivial rfl (by omega) (sortsA _) (enters_of Try.func54 (by kernel_rfl) rfl) 55 #[.pointer (some ⟨w.heap.size, 0, none⟩)] trivial (enters_of Try.func55 (by kernel_rfl) rfl) _ _ hmax hbytes _ hseq
  change CallsIn _ _ Try.prog 43 _ _ _ at cS
  have hfK : Fence.wide.fn 44 := trivial
  have hfS : Fence.wide.fn 43 := trivial
  refine callsIn_of_wp Try.func30 rfl trivial ?_ rfl
  simp only [Try.ntmps30, List.size_toArray, List.length_cons, List.length_nil, Nat.reduceAdd, Nat.reduceSub, Array.replicate_succ, Array.replicate_zero, List.push_toArray, List.append_toArray, List.nil_append, List.cons_append]
  gi_wp2_with (first
    | (gi_at_call 44; refine (cK _ _).mono ?_; rintro e w' ⟨rfl, rfl⟩)
    | (gi_at_call 43; refine cS.mono ?_; rintro e w' ⟨v, ss, rfl, hS, hrow, hnil, hb⟩; rw [show ss.mergeSort (fun x y => decide (x ≤ y)) = sortK l from sortK_of (hS.trans hperm)] at hrow; obtain ⟨ao, cap, rfl, hints, hbk⟩ := IntsAt.of_owns (show ss.length = (sortK l).length by rw [sortK_len, (hS.trans hperm).length_eq]; simp) hrow; clear hnil hrow))
  go_ret
  have hb' : Below w.heap.size w w' := ((Below.refl _ w).alloc (Nat.le_refl _) _).trans (hb.mono (by simp))
  exact ⟨ao, cap, rfl, hints, Ext.of_below hb', fun p hp => ⟨by have := (hbk p hp).1; simp at this; omega, (hbk p hp).2⟩⟩

set_option maxHeartbeats 1000000 in
theorem tr_sortedB (b : Nat) (l : Ents) (w : World) (h : IMap w b l) (hl : l.length ≤ 1000000) (hw : ∀ p ∈ l, (Lit.int .i64 p.1).wf = true) :
    Calls Try.prog 41 #[.map (some b)] w fun e w' => ∃ ao cap, e = .returned (.slice ao (sortK l).length cap) ∧ IntsAt w' ao (sortK l) ∧ Ext [] w w' ∧ (∀ p, ao = some p → w.heap.size ≤ p.block ∧ p.block < w'.heap.size) := by
  obtain ⟨D0, hown, hperm, hsz⟩ := h.owns (P := Try.prog) 3 Try.underlying3 (by unfold maxLen; omega) hw
  have hmax : Maps.size D0 ≤ maxLen := by rw [hsz]; unfold maxLen; omega
  have hbytes : Maps.size D0 * 8 ≤ 140737488355328 := by rw [hsz]; omega
  refine (callsIn_wide (n := 6)).1 ?_
  have hbl := hown.lt
  have hseq : SeqGives Fence.wide 2 Try.prog 58 #[.pointer (some ⟨w.heap.size, 0, none⟩)] encZ (fun ss => ss.Perm (intKeys D0)) (Maps.size D0) (w.alloc (.cells #[.map (some b)] 71)) :=
    AnyZI.keys_gives (ρ := keysB_ren) { keysB with } Fence.wide _ trivial rfl (by omega) w.heap.size b l.length D0 _ (by simp) (by simp) (by
      obtain ⟨es, clock, hb, Ft, hs, hD⟩ := hown
      exact ⟨es, clock, (Below.heap_alloc _ _ b hbl).trans hb, Ft, hs, hD⟩)
  have cK : ∀ mb W, CallsIn Fence.wide 5 Try.prog 52 #[.map mb] W fun e w' => e = .returned (.func (.func 58) #[] #[.pointer (some ⟨W.heap.size, 0, none⟩)]) ∧ w' = W.alloc (.cells #[.map mb] 71) := fun mb W => AnyZI.keys_in keysB Fence.wide 5 trivial rfl mb W
  have cS := AnyZI.sorted_in sortedA Fence.wide 5 trivial trivial trivial trivial rfl (by omega) (sortsA _) (enters_of Try.func54 (by kernel_rfl) rfl) 58 #[.pointer (some ⟨w.heap.size, 0, none⟩)] trivial (enters_of Try.func58 (by kernel_rfl) rfl) _ _ hmax hbytes _ hseq
  change CallsIn _ _ Try.prog 43 _ _ _ at cS
  have hfK : Fence.wide.fn 52 := trivial
  have hfS : Fence.wide.fn 43 := trivial
  refine callsIn_of_wp Try.func41 rfl trivial ?_ rfl
  simp only [Try.ntmps41, List.size_toArray, List.length_cons, List.length_nil, Nat.reduceAdd, Nat.reduceSub, Array.replicate_succ, Array.replicate_zero, List.push_toArray, List.append_toArray, List.nil_append, List.cons_append]
  gi_wp2_with (first
    | (gi_at_call 52; refine (cK _ _).mono ?_; rintro e w' ⟨rfl, rfl⟩)
    | (gi_at_call 43; refine cS.mono ?_; rintro e w' ⟨v, ss, rfl, hS, hrow, hnil, hb⟩; rw [show ss.mergeSort (fun x y => decide (x ≤ y)) = sortK l from sortK_of (hS.trans hperm)] at hrow; obtain ⟨ao, cap, rfl, hints, hbk⟩ := IntsAt.of_owns (show ss.length = (sortK l).length by rw [sortK_len, (hS.trans hperm).length_eq]; simp) hrow; clear hnil hrow))
  go_ret
  have hb' : Below w.heap.size w w' := ((Below.refl _ w).alloc (Nat.le_refl _) _).trans (hb.mono (by simp))
  exact ⟨ao, cap, rfl, hints, Ext.of_below hb', fun p hp => ⟨by have := (hbk p hp).1; simp at this; omega, (hbk p hp).2⟩⟩

set_option maxHeartbeats 1000000 in
theorem tr_sortedC (b : Nat) (l : Ents) (w : World) (h : IMap w b l) (hl : l.length ≤ 1000000) (hw : ∀ p ∈ l, (Lit.int .i64 p.1).wf = true) :
    Calls Try.prog 49 #[.map (some b)] w fun e w' => ∃ ao cap, e = .returned (.slice ao (sortK l).length cap) ∧ IntsAt w' ao (sortK l) ∧ Ext [] w w' ∧ (∀ p, ao = some p → w.heap.size ≤ p.block ∧ p.block < w'.heap.size) := by
  obtain ⟨D0, hown, hperm, hsz⟩ := h.owns (P := Try.prog) 3 Try.underlying3 (by unfold maxLen; omega) hw
  have hmax : Maps.size D0 ≤ maxLen := by rw [hsz]; unfold maxLen; omega
  have hbytes : Maps.size D0 * 8 ≤ 140737488355328 := by rw [hsz]; omega
  refine (callsIn_wide (n := 6)).1 ?_
  have hbl := hown.lt
  have hseq : SeqGives Fence.wide 2 Try.prog 62 #[.pointer (some ⟨w.heap.size, 0, none⟩)] encZ (fun ss => ss.Perm (intKeys D0)) (Maps.size D0) (w.alloc (.cells #[.map (some b)] 50)) :=
    AnyZI.keys_gives (ρ := keysC_ren) { keysC with } Fence.wide _ trivial rfl (by omega) w.heap.size b l.length D0 _ (by simp) (by simp) (by
      obtain ⟨es, clock, hb, Ft, hs, hD⟩ := hown
      exact ⟨es, clock, (Below.heap_alloc _ _ b hbl).trans hb, Ft, hs, hD⟩)
  have cK : ∀ mb W, CallsIn Fence.wide 5 Try.prog 57 #[.map mb] W fun e w' => e = .returned (.func (.func 62) #[] #[.pointer (some ⟨W.heap.size, 0, none⟩)]) ∧ w' = W.alloc (.cells #[.map mb] 50) := fun mb W => AnyZI.keys_in keysC Fence.wide 5 trivial rfl mb W
  have cS := AnyZI.sorted_in sortedA Fence.wide 5 trivial trivial trivial trivial rfl (by omega) (sortsA _) (enters_of Try.func54 (by kernel_rfl) rfl) 62 #[.pointer (some ⟨w.heap.size, 0, none⟩)] trivial (enters_of Try.func62 (by kernel_rfl) rfl) _ _ hmax hbytes _ hseq
  change CallsIn _ _ Try.prog 43 _ _ _ at cS
  have hfK : Fence.wide.fn 57 := trivial
  have hfS : Fence.wide.fn 43 := trivial
  refine callsIn_of_wp Try.func49 rfl trivial ?_ rfl
  simp only [Try.ntmps49, List.size_toArray, List.length_cons, List.length_nil, Nat.reduceAdd, Nat.reduceSub, Array.replicate_succ, Array.replicate_zero, List.push_toArray, List.append_toArray, List.nil_append, List.cons_append]
  gi_wp2_with (first
    | (gi_at_call 57; refine (cK _ _).mono ?_; rintro e w' ⟨rfl, rfl⟩)
    | (gi_at_call 43; refine cS.mono ?_; rintro e w' ⟨v, ss, rfl, hS, hrow, hnil, hb⟩; rw [show ss.mergeSort (fun x y => decide (x ≤ y)) = sortK l from sortK_of (hS.trans hperm)] at hrow; obtain ⟨ao, cap, rfl, hints, hbk⟩ := IntsAt.of_owns (show ss.length = (sortK l).length by rw [sortK_len, (hS.trans hperm).length_eq]; simp) hrow; clear hnil hrow))
  go_ret
  have hb' : Below w.heap.size w w' := ((Below.refl _ w).alloc (Nat.le_refl _) _).trans (hb.mono (by simp))
  exact ⟨ao, cap, rfl, hints, Ext.of_below hb', fun p hp => ⟨by have := (hbk p hp).1; simp at this; omega, (hbk p hp).2⟩⟩
end Go.Proofs.Ytmfbgkcphiomaaa
