/- The keys of a map of ints, rising, one by one: maps.Clone, sorted. -/
import Derived.Test.YtgpoplnfhlfogaaEpF
import Derived.Test.YtgpoplnfhlfogaaKey
import Derived.Test.YtgpoplnfhlfogaaIvl
import Derived.Shelf.SortM.Plain
import Derived.Shelf.SortM.SortNone
import Derived.Ground.GgzProg
import Derived.Ground.SlgmProg
import Derived.StillTailTactics
import Derived.Shelf.SlMaps.Clone
namespace Go.Proofs.Ytgpoplnfhlfogaa
open Go Go.RowKit Go.Maps Go.Sort Go.Shelf

set_option maxRecDepth 100000 in
set_option maxHeartbeats 1000000 in
theorem ep_clone (mb : Nat) (l : Ents) (w : World) (h : IMap w mb l) :
    Calls Try.prog 95 #[.map (some mb)] w fun e w' => e = .returned (.map (some w.heap.size)) ∧ Ext [] w w' ∧ w'.heap.size = w.heap.size + 1 ∧ IMap w' w.heap.size l := by
  have hq := fun w => run_eql_map_nil_sl (P := Try.prog) w 42 _ _ (some mb) Try.underlying42
  obtain ⟨o, ho, hr, hm⟩ := run_mapClone (P := Try.prog) 42 h
  have HM := Lib.hid hm
  clear hm h
  go_enter Try.func95, Try.ntmps95
  go_wp2
  rw [run_callFunc_extern Try.func109 (by kernel_rfl) (by kernel_rfl) (by kernel_rfl) (e := Extern.MapsClone.clone) (by kernel_rfl), hr]
  simp only [Result.andThen]
  rw [Oper.upon_value]
  go_wp2
  rw [run_typeAssert_map_sl _ 42 _ _ _ _ Try.underlying42]
  simp only [Result.andThen]
  rw [Oper.upon_value]
  go_wp2
  go_ret
  exact ⟨rfl, (Ext.refl _ _).alloc _, by simp, HM.out⟩

shelf_lay_g SlLaysZI.n7 Ggz 7 at Try 115 as keysA
shelf_lay_g SlLaysZI.n6 Ggz 6 at Try 114 as sortedA
shelf_lay_g SlLaysM.n5 Slgm 5 at Try 120 as sortA

theorem sortsA (m : Nat) : AnyZI.SortsIn Try.prog sortedA_ren Fence.wide m :=
  ⟨fun blk off cap ss W hH hblk hsz => callsIn_wide.2 (AnyM.slices_Sort_int sortA blk off cap ss W hH hblk hsz),
   fun p cap W => callsIn_wide.2 (AnyM.slices_Sort_int_none sortA p cap W)⟩

set_option maxHeartbeats 1000000 in
/-- sorted: the keys, rising, as an iterator's source -/
theorem ep_sorted (b : Nat) (l : Ents) (w : World) (h : IMap w b l) (hl : l.length ≤ 1000000) (hw : ∀ p ∈ l, (Lit.int .i64 p.1).wf = true) :
    Calls Try.prog 97 #[.map (some b)] w fun e w' => ∃ B ao cap, e = .returned (.func (.func 118) #[] #[.pointer (some ⟨B, 0, none⟩)]) ∧
      w.heap.size ≤ B ∧ B < w'.heap.size ∧ VKB B (.slice ao (sortK l).length cap) ao (sortK l) w' ∧ Ext [] w w' ∧ (∀ p, ao = some p → w.heap.size ≤ p.block ∧ p.block < w'.heap.size) := by
  obtain ⟨D0, hown, hperm, hsz⟩ := h.owns (P := Try.prog) 3 Try.underlying3 (by unfold maxLen; omega) hw
  have hmax : Maps.size D0 ≤ maxLen := by rw [hsz]; unfold maxLen; omega
  have hbytes : Maps.size D0 * 8 ≤ 140737488355328 := by rw [hsz]; omega
  refine (callsIn_wide (n := 6)).1 ?_
  have hbl := hown.lt
  have hseq : SeqGives Fence.wide 2 Try.prog 121 #[.pointer (some ⟨w.heap.size, 0, none⟩)] encZ (fun ss => ss.Perm (intKeys D0)) (Maps.size D0) (w.alloc (.cells #[.map (some b)] 42)) :=
    AnyZI.keys_gives (ρ := keysA_ren) { keysA with } Fence.wide _ trivial rfl (by omega) w.heap.size b l.length D0 _ (by simp) (by simp) (by
      obtain ⟨es, clock, hb, Ft, hs, hD⟩ := hown
      exact ⟨es, clock, (Below.heap_alloc _ _ b hbl).trans hb, Ft, hs, hD⟩)
  have cK : ∀ mb W, CallsIn Fence.wide 5 Try.prog 115 #[.map mb] W fun e w' => e = .returned (.func (.func 121) #[] #[.pointer (some ⟨W.heap.size, 0, none⟩)]) ∧ w' = W.alloc (.cells #[.map mb] 42) := fun mb W => AnyZI.keys_in keysA Fence.wide 5 trivial rfl mb W
  have cS := AnyZI.sorted_in sortedA Fence.wide 5 trivial trivial trivial trivial rfl (by omega) (sortsA _) (enters_of Try.func120 (by kernel_rfl) rfl) 121 #[.pointer (some ⟨w.heap.size, 0, none⟩)] trivial (enters_of Try.func121 (by kernel_rfl) rfl) _ _ hmax hbytes _ hseq
  change CallsIn _ _ Try.prog 114 _ _ _ at cS
  have hfK : Fence.wide.fn 115 := trivial
  have hfS : Fence.wide.fn 114 := trivial
  have hfV : Fence.wide.fn 113 := trivial
  refine callsIn_of_wp Try.func97 rfl trivial ?_ rfl
  simp only [Try.ntmps97, List.size_toArray, List.length_cons, List.length_nil, Nat.reduceAdd, Nat.reduceSub, Array.replicate_succ, Array.replicate_zero, List.push_toArray, List.append_toArray, List.nil_append, List.cons_append]
  gi_wp2_with (first
    | (gi_at_call 115; refine (cK _ _).mono ?_; rintro e w' ⟨rfl, rfl⟩)
    | (gi_at_call 114; refine cS.mono ?_; rintro e w' ⟨v, ss, rfl, hS, hrow, hnil, hb⟩; rw [show ss.mergeSort (fun x y => decide (x ≤ y)) = sortK l from sortK_of (hS.trans hperm)] at hrow; obtain ⟨ao, cap, rfl, hints, hbk⟩ := IntsAt.of_owns (show ss.length = (sortK l).length by rw [sortK_len, (hS.trans hperm).length_eq]; simp) hrow; clear hnil hrow)
    | (gi_at_call 113; refine (callsIn_wide.2 (iv_values _ _ _ _)).mono ?_; rintro e w2 ⟨rfl, rfl⟩))
  go_ret
  have hb' : Below w.heap.size w w' := ((Below.refl _ w).alloc (Nat.le_refl _) _).trans (hb.mono (by simp))
  refine ⟨_, ao, cap, rfl, hb'.size, by simp, ⟨cell_of (World.alloc_heap_new _ _) rfl, fun i hi => ?_⟩, (Ext.of_below hb').alloc _, fun p hp => ⟨by have := (hbk p hp).1; simp at this; omega, by have := (hbk p hp).2; simp; omega⟩⟩
  obtain ⟨g, off, e1, e2⟩ := hints i hi
  exact ⟨g, off, e1, cell_al e2⟩
end Go.Proofs.Ytgpoplnfhlfogaa
